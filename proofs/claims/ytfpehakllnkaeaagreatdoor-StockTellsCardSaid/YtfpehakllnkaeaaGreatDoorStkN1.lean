
/- Stock, the reference: Order, Expired, Recall, Ints. -/
import Derived.Test.YtfpehakllnkaeaaGreatDoorStkT
import Derived.Test.YtfpehakllnkaeaaGreatDoorStkRk
import Derived.Test.YtfpehakllnkaeaaGreatDoorStkYs
set_option linter.unusedSimpArgs false
set_option linter.unusedVariables false
namespace Go.Proofs.YtfpehakllnkaeaaGreatDoor
open Go.RowKit Go.IntWalk

/-- The lots with lot k frozen. -/
def frz (lots : List Lt) (k : Nat) : List Lt := lots.set k ((lots.getD k (0, 0, false)).1, (lots.getD k (0, 0, false)).2.1, true)
theorem frz_len (lots : List Lt) (k : Nat) : (frz lots k).length = lots.length := by simp [frz]
theorem rec_frz {lots : List Lt} {k : Nat} (h : k < lots.length) : recL lots (k : Int) = (frz lots k, 0) := by unfold recL frz; rw [if_pos ⟨by omega, by omega⟩]; rfl
theorem frz_frz {lots : List Lt} {k : Nat} (h : k < lots.length) : frz (frz lots k) k = frz lots k := by
  unfold frz
  simp [h]
theorem frz_at {lots : List Lt} {k i : Nat} (h : k < lots.length) (d : Lt) : (frz lots k).getD i d = if i = k then ((lots.getD k (0, 0, false)).1, (lots.getD k (0, 0, false)).2.1, true) else lots.getD i d := by
  unfold frz
  by_cases e : i = k
  · subst e; simp [h]
  · simp [e, List.getElem?_set_ne (fun e' => e e'.symm)]
theorem frz_fit {lots : List Lt} {k : Nat} (h : k < lots.length) (w : Wt) : fitF ((frz lots k).getD k (0, 0, false)) w = false := by
  rw [frz_at h, if_pos rfl]; simp [fitF]
theorem frz_has {lots : List Lt} {k : Nat} (h : k < lots.length) (w : Wt) (b : Bx) : hasF (frz lots k) w b = (hasF lots w b && !decide (b.1 = (k : Int))) := by
  unfold hasF lotAt
  rw [frz_len, frz_at h]
  by_cases h0 : 0 ≤ b.1
  · by_cases e : b.1 = (k : Int)
    · have : b.1.toNat = k := by omega
      rw [if_pos this]
      simp [fitF, e]
    · have : b.1.toNat ≠ k := by omega
      rw [if_neg this]
      simp [e]
  · simp [h0]
/-- What a recall takes from a supply. -/
def goneL (lots : List Lt) (bs : List Bx) (w : Wt) (k : Int) : Int := sumI ((bs.filter (fun b => decide (b.1 = k) && hasF lots w b)).map (fun b => b.2.1))
theorem goneL_take {lots : List Lt} {bs : List Bx} {w : Wt} {n : Int} {k : Nat} (h : k < bs.length) : goneL lots (bs.take (k + 1)) w n = goneL lots (bs.take k) w n + if decide (bs[k].1 = n) && hasF lots w bs[k] then bs[k].2.1 else 0 := by
  unfold goneL
  rw [List.take_add_one, List.getElem?_eq_getElem h, Option.toList_some, List.filter_append, List.map_append, sumI_app]
  by_cases hx : (decide (bs[k].1 = n) && hasF lots w bs[k]) = true
  · rw [if_pos hx]; simp only [List.filter_cons, hx, if_true, List.filter_nil]; simp [sumI]
  · rw [if_neg hx]; simp only [List.filter_cons, hx, List.filter_nil]; simp [sumI]
theorem frz_supply {lots : List Lt} {k : Nat} (h : k < lots.length) (bs : List Bx) (w : Wt) : supplyL (frz lots k) bs w = supplyL lots bs w - goneL lots bs w k := by
  have key : ∀ n, n ≤ bs.length → supplyL (frz lots k) (bs.take n) w = supplyL lots (bs.take n) w - goneL lots (bs.take n) w k := by
    intro n
    induction n with
    | zero => intro _; simp [supplyL, goneL, sumI]
    | succ n ih =>
      intro hn
      have := ih (by omega)
      rw [supplyL_take (by omega), supplyL_take (by omega), goneL_take (by omega), frz_has h, this]
      cases hasF lots w bs[n] <;> by_cases e : bs[n].1 = (k : Int) <;> simp [e] <;> omega
  have := key bs.length (Nat.le_refl _)
  rwa [List.take_length] at this
theorem frz_right {ks : List Kd} {lots : List Lt} {bs : List Bx} {k : Nat} (h : k < lots.length) (hr : rightS ks lots bs = true) : rightS ks (frz lots k) bs = true := by
  unfold rightS at *
  rw [frz_len]
  simp only [Bool.and_eq_true] at hr ⊢
  refine ⟨⟨⟨hr.1.1.1, ?_⟩, hr.1.2⟩, hr.2⟩
  have hl := List.all_eq_true.1 hr.1.1.2
  refine List.all_eq_true.2 fun x hx => ?_
  rcases List.mem_or_eq_of_mem_set hx with hx | rfl
  · exact hl x hx
  · have := hl _ (List.getElem_mem h)
    simpa [lotF, h] using this
theorem exp_fit {lots : List Lt} {t : Int} {i : Nat} (h : i ∈ expK lots t lots.length) (w : Wt) : i < lots.length ∧ fitF (lots.getD i (0, 0, false)) (w.1, w.2.1, max w.2.2 t) = false := by
  simp only [expK, List.mem_filter, List.mem_range, decide_eq_true_eq] at h
  refine ⟨h.1, ?_⟩
  have h2 := h.2
  generalize lots.getD i (0, 0, false) = x at *
  have : ¬ max w.2.2 t ≤ x.2.1 := by omega
  simp [fitF, this]
end Go.Proofs.YtfpehakllnkaeaaGreatDoor
namespace Go.Proofs.YtfpehakllnkaeaaGreatDoor
open Go.RowKit Go.IntWalk

theorem given_parts {ks : List Kd} {lots : List Lt} {bs : List Bx} (h : (fewS ks lots bs 20 && rightS ks lots bs) = true) : (ks.length ≤ 20 ∧ lots.length ≤ 20 ∧ bs.length ≤ 20) ∧ rightS ks lots bs = true ∧ (∀ b ∈ bs, b.1 < lots.length) ∧ CntOK bs := by
  simp only [Bool.and_eq_true] at h
  obtain ⟨h1, h2⟩ := h
  refine ⟨?_, h2, ?_⟩
  · simp only [fewS, Bool.and_eq_true, decide_eq_true_eq] at h1
    omega
  · simp only [rightS, Bool.and_eq_true] at h2
    have hb := List.all_eq_true.1 h2.1.2
    constructor
    · intro b hb'
      have := hb b hb'
      simp only [boxF, btw, Bool.and_eq_true, decide_eq_true_eq] at this
      omega
    · intro b hb'
      have := hb b hb'
      simp only [boxF, btw, Bool.and_eq_true, decide_eq_true_eq] at this
      omega
theorem goneL_bd {lots : List Lt} {bs : List Bx} {w : Wt} {n : Int} (h : CntOK bs) : ∀ i, i ≤ bs.length → 0 ≤ goneL lots (bs.take i) w n ∧ goneL lots (bs.take i) w n ≤ 20000 * i := by
  intro i
  induction i with
  | zero => intro _; simp [goneL, sumI]
  | succ i ih =>
    intro hi
    have h1 := ih (by omega)
    have h2 := h _ (List.getElem_mem (show i < bs.length by omega))
    rw [goneL_take (by omega)]
    split <;> constructor <;> omega
end Go.Proofs.YtfpehakllnkaeaaGreatDoor
namespace Go.Proofs.YtfpehakllnkaeaaGreatDoor
open Go.RowKit Go.IntWalk

abbrev z3 : Bx := (0, 0, 0)
/-- What a list of takes takes from box i. -/
def takenL (ts : List Tk) (i : Int) : Int := sumI ((ts.filter (fun t => decide (t.1 = i))).map (fun t => t.2))
theorem takenL_nil (i : Int) : takenL [] i = 0 := rfl
theorem takenL_cons (t : Tk) (ts : List Tk) (i : Int) : takenL (t :: ts) i = (if t.1 = i then t.2 else 0) + takenL ts i := by
  unfold takenL
  by_cases h : t.1 = i <;> simp [h, sumI]
theorem takenL_app (a b : List Tk) (i : Int) : takenL (a ++ b) i = takenL a i + takenL b i := by
  unfold takenL
  rw [List.filter_append, List.map_append, sumI_app]
theorem takenL_take {ts : List Tk} {i : Int} {k : Nat} (h : k < ts.length) : takenL (ts.take (k + 1)) i = takenL (ts.take k) i + if ts[k].1 = i then ts[k].2 else 0 := by
  rw [List.take_add_one, List.getElem?_eq_getElem h, Option.toList_some, takenL_app, takenL_cons, takenL_nil, Int.add_zero]
def GoodT (n : Nat) (ts : List Tk) : Prop := ∀ t ∈ ts, 0 ≤ t.1 ∧ t.1 < n ∧ 1 ≤ t.2
theorem takenL_nonneg {n : Nat} : ∀ {ts : List Tk}, GoodT n ts → ∀ i, 0 ≤ takenL ts i
  | [], _, i => by simp [takenL_nil]
  | t :: ts, h, i => by
    rw [takenL_cons]
    have := takenL_nonneg (fun x hx => h x (List.mem_cons_of_mem _ hx)) i
    have := (h t (List.mem_cons_self ..)).2.2
    split <;> omega
theorem takenL_part {n : Nat} {ts : List Tk} (h : GoodT n ts) (i : Int) (k : Nat) : 0 ≤ takenL (ts.take k) i ∧ takenL (ts.take k) i ≤ takenL ts i := by
  have h1 := takenL_nonneg (ts := ts.take k) (fun x hx => h x (List.mem_of_mem_take hx)) i
  have h2 := takenL_nonneg (ts := ts.drop k) (fun x hx => h x (List.mem_of_mem_drop hx)) i
  have h3 := takenL_app (ts.take k) (ts.drop k) i
  rw [List.take_append_drop] at h3
  omega
theorem subAt_len (bs : List Bx) (i : Nat) (n : Int) : (subAt bs i n).length = bs.length := by simp [subAt]
theorem subAt_at {bs : List Bx} {k : Nat} (hk : k < bs.length) (n : Int) (i : Nat) : (subAt bs k n).getD i z3 = if i = k then ((bs.getD k z3).1, (bs.getD k z3).2.1 - n, (bs.getD k z3).2.2) else bs.getD i z3 := by
  unfold subAt
  by_cases e : i = k
  · subst e; simp [hk, z3]
  · simp [e, List.getElem?_set_ne (fun e' => e e'.symm), z3]
structure Pk (bs : List Bx) (ts : List Tk) (l : List Bx) : Prop where
  len : l.length = bs.length
  at_ : ∀ i, i < bs.length → l.getD i z3 = ((bs.getD i z3).1, (bs.getD i z3).2.1 - takenL ts i, (bs.getD i z3).2.2)
  le : ∀ i, i < bs.length → 0 ≤ (bs.getD i z3).2.1 → takenL ts i ≤ (bs.getD i z3).2.1
theorem pick_pk : ∀ {ts : List Tk} {bs l : List Bx}, GoodT bs.length ts → pickGo ts bs = some l → Pk bs ts l
  | [], bs, l, _, h => by
    simp only [pickGo, Option.some.injEq] at h
    subst h
    exact ⟨rfl, fun i hi => by simp [takenL_nil], fun i hi h0 => by simpa [takenL_nil] using h0⟩
  | t :: ts, bs, l, hg, h => by
    obtain ⟨h0, h1, h2⟩ := hg t (List.mem_cons_self ..)
    obtain ⟨t1, t2⟩ := t
    simp only at h0 h1 h2
    obtain ⟨k, rfl⟩ := Int.eq_ofNat_of_zero_le h0
    have hk : k < bs.length := by omega
    simp only [pickGo, Int.toNat_natCast] at h
    split at h
    · cases h
    rename_i hc
    have hgg : GoodT (subAt bs k t2).length ts := by rw [subAt_len]; exact fun x hx => hg x (List.mem_cons_of_mem _ hx)
    have ih := pick_pk hgg h
    have hlen := ih.len
    rw [subAt_len] at hlen
    have hca : cntAt bs k = (bs.getD k z3).2.1 := rfl
    refine ⟨hlen, fun i hi => ?_, fun i hi hn => ?_⟩
    · rw [ih.at_ i (by rw [subAt_len]; exact hi), subAt_at hk, takenL_cons]
      by_cases e : i = k
      · subst e
        simp only [if_true]
        have : (bs.getD i z3).2.1 - t2 - takenL ts i = (bs.getD i z3).2.1 - (t2 + takenL ts i) := by omega
        rw [this]
      · have e2 : ¬ (k : Int) = (i : Int) := by omega
        rw [if_neg e, if_neg e2, Int.zero_add]
    · have h5 := ih.le i (by rw [subAt_len]; exact hi)
      rw [subAt_at hk] at h5
      rw [takenL_cons]
      by_cases e : i = k
      · subst e
        simp only [if_true] at h5 ⊢
        rw [hca] at hc
        have := h5 (by omega)
        omega
      · have e2 : ¬ (k : Int) = (i : Int) := by omega
        rw [if_neg e] at h5
        rw [if_neg e2]
        have := h5 hn
        omega
theorem pickGo_app : ∀ (a b : List Tk) (bs : List Bx), pickGo (a ++ b) bs = (pickGo a bs).bind (pickGo b)
  | [], b, bs => rfl
  | t :: a, b, bs => by
    simp only [List.cons_append, pickGo]
    split
    · rfl
    · exact pickGo_app a b _
theorem pickL_ok {bs : List Bx} {ts : List Tk} (h : (pickL bs ts).2 = 0) : GoodT bs.length ts ∧ pickGo ts bs = some (pickL bs ts).1 := by
  unfold pickL at h ⊢
  split at h
  · exact absurd h (by decide)
  rename_i h1
  split at h
  · exact absurd h (by decide)
  rename_i h2
  rw [if_neg h1, if_neg h2]
  cases hp : pickGo ts bs with
  | none => rw [hp] at h; exact absurd h (by decide)
  | some l =>
    refine ⟨fun t ht => ?_, rfl⟩
    simp only [List.any_eq_true, not_exists, not_and, Bool.not_eq_true, btw, Bool.not_eq_false', Bool.and_eq_true, decide_eq_true_eq, decide_eq_false_iff_not] at h1 h2
    have a1 := h1 t ht
    have a2 := h2 t ht
    omega
theorem pickL_bad {bs : List Bx} {ts : List Tk} (h : (pickL bs ts).2 ≠ 0) : (pickL bs ts).1 = [] := by
  unfold pickL at h ⊢
  split
  · rfl
  rename_i h1
  rw [if_neg h1] at h
  split
  · rfl
  rename_i h2
  rw [if_neg h2] at h
  cases hp : pickGo ts bs with
  | none => rfl
  | some l => rw [hp] at h; exact absurd rfl h
theorem pickL_twice {bs : List Bx} {a b : List Tk} (h : (pickL bs a).2 = 0) : pickL (pickL bs a).1 b = pickL bs (a ++ b) := by
  obtain ⟨hg, hp⟩ := pickL_ok h
  have hl := (pick_pk hg hp).len
  have e1 : a.any (fun x => !btw x.1 0 ((bs.length : Int) - 1)) = false := by
    rw [List.any_eq_false]
    intro t ht
    obtain ⟨h0, h1, h2⟩ := hg t ht
    have : btw t.1 0 ((bs.length : Int) - 1) = true := by simp only [btw, Bool.and_eq_true, decide_eq_true_eq]; omega
    simp [this]
  have e2 : a.any (fun x => decide (x.2 < 1)) = false := by
    rw [List.any_eq_false]
    intro t ht
    obtain ⟨h0, h1, h2⟩ := hg t ht
    simp; omega
  generalize (pickL bs a).1 = l at *
  unfold pickL
  rw [hl, List.any_append, List.any_append, e1, e2, Bool.false_or, Bool.false_or, pickGo_app, hp]
  rfl
/-- What the takes take from the boxes that fit. -/
def fitK (lots : List Lt) (bs : List Bx) (w : Wt) (ts : List Tk) : Nat → Int
  | 0 => 0
  | m + 1 => fitK lots bs w ts m + if hasF lots w (bs.getD m z3) then takenL ts m else 0
theorem fitK_bd {lots : List Lt} {bs : List Bx} {w : Wt} {ts : List Tk} {l : List Bx} (hp : Pk bs ts l) (hg : GoodT bs.length ts) (hc : CntOK bs) : ∀ m, m ≤ bs.length → 0 ≤ fitK lots bs w ts m ∧ fitK lots bs w ts m ≤ 20000 * m := by
  intro m
  induction m with
  | zero => intro _; simp [fitK]
  | succ m ih =>
    intro hm
    have h0 := ih (by omega)
    have h1 := takenL_nonneg hg m
    have h2 : bs.getD m z3 = bs[m] := by simp [show m < bs.length by omega]
    have h3 := hc _ (List.getElem_mem (show m < bs.length by omega))
    have h4 := hp.le m (by omega) (by rw [h2]; exact h3.1)
    rw [h2] at h4
    simp only [fitK]
    split <;> constructor <;> omega
theorem has_cnt (lots : List Lt) (w : Wt) (a b c d e : Int) : hasF lots w (a, b, c) = hasF lots w (a, d, e) := rfl
theorem pk_supply {lots : List Lt} {bs : List Bx} {w : Wt} {ts : List Tk} {l : List Bx} (hp : Pk bs ts l) : supplyL lots l w = supplyL lots bs w - fitK lots bs w ts bs.length := by
  have hl := hp.len
  have key : ∀ n, n ≤ bs.length → supplyL lots (l.take n) w = supplyL lots (bs.take n) w - fitK lots bs w ts n := by
    intro n
    induction n with
    | zero => intro _; simp [supplyL, fitK, sumI]
    | succ n ih =>
      intro hn
      have := ih (by omega)
      have e := hp.at_ n (by omega)
      have e1 : bs.getD n z3 = bs[n] := by simp [show n < bs.length by omega]
      have e2 : l.getD n z3 = l[n]'(by omega) := by simp [show n < l.length by omega]
      rw [e1, e2] at e
      rw [supplyL_take (by omega), supplyL_take (by omega), this, fitK, e1, e]
      rw [has_cnt lots w _ _ _ bs[n].2.1 bs[n].2.2]
      show _ + (if hasF lots w bs[n] = true then bs[n].2.1 - takenL ts n else 0) = _
      split <;> omega
  have := key bs.length (Nat.le_refl _)
  rwa [List.take_length, List.take_of_length_le (by omega)] at this
/-- A right stock: each box's facts. -/
structure BoxOK (ks : List Kd) (lots : List Lt) (b : Bx) : Prop where
  tare : 0 ≤ b.2.2 ∧ b.2.2 ≤ 1000000
  lot : -1 ≤ b.1 ∧ b.1 < lots.length
  cnt : 0 ≤ b.2.1 ∧ b.2.1 ≤ 20000
  free : 0 ≤ b.1 ∨ b.2.1 = 0
  kind : 0 ≤ b.1 → 0 ≤ (lotAt lots b).1 ∧ (lotAt lots b).1 < ks.length ∧ 1 ≤ (ks.getD (lotAt lots b).1.toNat (ByteArray.empty, 0)).2 ∧ (ks.getD (lotAt lots b).1.toNat (ByteArray.empty, 0)).2 ≤ 10000
theorem names_kind : ∀ {seen : List ByteArray} {ks : List Kd}, namesF seen ks = true → ks.all kindF = true
  | _, [], _ => rfl
  | seen, k :: r, h => by
    simp only [namesF, Bool.and_eq_true] at h
    rw [List.all_cons, h.1.1, names_kind h.2]
    rfl
theorem right_kinds {ks : List Kd} {lots : List Lt} {bs : List Bx} (h : rightS ks lots bs = true) : ks.all kindF = true ∧ lots.all (lotF ks.length) = true ∧ bs.all (boxF lots.length) = true := by
  simp only [rightS, kindsF, Bool.and_eq_true] at h
  exact ⟨names_kind h.1.1.1.2.1, h.1.1.2, h.1.2⟩
theorem right_box {ks : List Kd} {lots : List Lt} {bs : List Bx} (h : rightS ks lots bs = true) {b : Bx} (hb : b ∈ bs) : BoxOK ks lots b := by
  obtain ⟨h1, h2, h3⟩ := right_kinds h
  have hb' := List.all_eq_true.1 h3 b hb
  simp only [boxF, btw, Bool.and_eq_true, Bool.or_eq_true, decide_eq_true_eq] at hb'
  refine ⟨by omega, by omega, by omega, by omega, fun h0 => ?_⟩
  have hlt : b.1.toNat < lots.length := by omega
  have hl := List.all_eq_true.1 h2 _ (List.getElem_mem hlt)
  have e1 : lotAt lots b = lots[b.1.toNat] := by simp [lotAt, hlt]
  rw [e1]
  simp only [lotF, btw, Bool.and_eq_true, decide_eq_true_eq] at hl
  have hkt : lots[b.1.toNat].1.toNat < ks.length := by omega
  have hk := List.all_eq_true.1 h1 _ (List.getElem_mem hkt)
  have e2 : ks.getD lots[b.1.toNat].1.toNat (ByteArray.empty, 0) = ks[lots[b.1.toNat].1.toNat] := by simp [hkt]
  rw [e2]
  simp only [kindF, btw, Bool.and_eq_true, decide_eq_true_eq] at hk
  omega
theorem boxF_of {ks : List Kd} {lots : List Lt} {b : Bx} (h : BoxOK ks lots b) {n : Int} (h0 : 0 ≤ n) (h1 : n ≤ b.2.1) : boxF lots.length (b.1, b.2.1 - n, b.2.2) = true := by
  have := h.tare; have := h.lot; have := h.cnt; have := h.free
  simp only [boxF, btw, Bool.and_eq_true, Bool.or_eq_true, decide_eq_true_eq]
  omega
/-- A unit's weight, of the lot of a box. -/
def kwF (ks : List Kd) (lots : List Lt) (b : Bx) : Int := (ks.getD (lotAt lots b).1.toNat (ByteArray.empty, 0)).2
theorem weight_less {ks : List Kd} {lots : List Lt} {b : Bx} (h : BoxOK ks lots b) {n : Int} (h0 : 0 ≤ n) (h1 : n ≤ b.2.1) : weightF ks lots b - weightF ks lots (b.1, b.2.1 - n, b.2.2) = n * (if 0 < n then kwF ks lots b else 0) := by
  have hf := h.free; have hcn := h.cnt
  unfold weightF kwF
  have e : lotAt lots (b.1, b.2.1 - n, b.2.2) = lotAt lots b := rfl
  simp only [e]
  by_cases hn : b.1 < 0
  · have : n = 0 := by omega
    subst this
    simp [hn]
  · simp only [hn, if_false]
    generalize (ks.getD (lotAt lots b).1.toNat (ByteArray.empty, 0)).2 = q
    by_cases hz : 0 < n
    · rw [if_pos hz, Int.sub_mul]; omega
    · have : n = 0 := by omega
      subst this
      simp
theorem weight_bd {ks : List Kd} {lots : List Lt} {b : Bx} (h : BoxOK ks lots b) {n : Int} (h0 : 0 ≤ n) (h1 : n ≤ b.2.1) : 0 ≤ weightF ks lots (b.1, b.2.1 - n, b.2.2) ∧ weightF ks lots (b.1, b.2.1 - n, b.2.2) ≤ 201000000 := by
  have := h.tare; have hcn := h.cnt
  unfold weightF
  have e : lotAt lots (b.1, b.2.1 - n, b.2.2) = lotAt lots b := rfl
  simp only [e]
  split
  · omega
  · rename_i hn
    have hk := (h.kind (by omega)).2.2
    generalize (ks.getD (lotAt lots b).1.toNat (ByteArray.empty, 0)).2 = q at *
    have h2 : 0 ≤ (b.2.1 - n) * q := Int.mul_nonneg (by omega) (by omega)
    have h3 : (b.2.1 - n) * q ≤ 20000 * 10000 := Int.mul_le_mul (by omega) (by omega) (by omega) (by omega)
    omega
end Go.Proofs.YtfpehakllnkaeaaGreatDoor
namespace Go.Proofs.YtfpehakllnkaeaaGreatDoor
open Go.RowKit Go.IntWalk

theorem leftOK_of {lots : List Lt} {bs : List Bx} {w : World} {B : Nat} {A : Option Addr} (h : SlR w B A bs) (hlt : ∀ b ∈ bs, b.1 < lots.length) (hc : CntOK bs) : LeftOK lots bs.length bs := ⟨rfl, hlt, hc, bxRK.oks h⟩
theorem pk_mem {bs : List Bx} {ts : List Tk} {l : List Bx} (hp : Pk bs ts l) {b : Bx} (hb : b ∈ l) : ∃ i, i < bs.length ∧ bs.getD i z3 ∈ bs ∧ b = ((bs.getD i z3).1, (bs.getD i z3).2.1 - takenL ts i, (bs.getD i z3).2.2) := by
  obtain ⟨i, hi, rfl⟩ := List.getElem_of_mem hb
  have hi' : i < bs.length := by have := hp.len; omega
  refine ⟨i, hi', by simp [hi'], ?_⟩
  rw [← hp.at_ i hi']
  simp [hi]
theorem pk_left {lots : List Lt} {bs : List Bx} {ts : List Tk} {l : List Bx} (hp : Pk bs ts l) (hg : GoodT bs.length ts) (h : LeftOK lots bs.length bs) : LeftOK lots l.length l := by
  refine ⟨rfl, fun b hb => ?_, fun b hb => ?_, fun b hb => ?_⟩ <;>
  · obtain ⟨i, hi, hm, rfl⟩ := pk_mem hp hb
    have h1 := h.lt _ hm
    have h2 := h.cnt _ hm
    have h3 := h.i3 _ hm
    have h4 := hp.le i hi h2.1
    have h5 := takenL_nonneg hg i
    first
      | exact h1
      | (constructor <;> (simp only; omega))
      | exact ⟨h3.1, ⟨by simp only; omega, by simp only; omega⟩, h3.2.2⟩
theorem gr_own {w w1 w2 : World} {v : Value} {T : Type} [Rep T] {R : RK T} {l : List T} {b : Nat} (h : Below b w w1) (hs : b ≤ w1.heap.size) (ho : R.Own w1 b v l) (hg : w1.grownBy w2 v.ownBlock) : Below b w w2 :=
  h.grown hg hs (fun q e => (own_blk ho q e).1)
end Go.Proofs.YtfpehakllnkaeaaGreatDoor
namespace Go.Proofs.YtfpehakllnkaeaaGreatDoor
open Go.RowKit Go.IntWalk

theorem serve_acc : ∀ (l : List Nat) (need : Int) (bs : List Bx) (ts : List Tk), serve l need bs ts = ((serve l need bs []).1, (serve l need bs []).2.1, ts ++ (serve l need bs []).2.2)
  | [], need, bs, ts => by simp [serve]
  | i :: r, need, bs, ts => by
    simp only [serve, List.nil_append]
    split
    · simp
    · rw [serve_acc r _ _ (ts ++ _), serve_acc r _ _ [_]]
      simp
theorem serve_zero (l : List Nat) (bs : List Bx) (h : ∀ i ∈ l, 0 < cntAt bs i) : serve l 0 bs [] = (0, bs, []) := by
  cases l with
  | nil => rfl
  | cons i r =>
    have := h i (List.mem_cons_self ..)
    simp only [serve]
    rw [if_pos (by omega)]
/-- The takes, one after the other, lead from the boxes to bs'; each is of a box that fits. -/
def Serves (lots : List Lt) (w : Wt) : List Bx → List Tk → List Bx → Prop
  | bs, [], bs' => bs' = bs
  | bs, t :: ts, bs' => ∃ k : Nat, t.1 = k ∧ k < bs.length ∧ 1 ≤ t.2 ∧ t.2 ≤ cntAt bs k ∧ hasF lots w (bs.getD k z3) = true ∧ Serves lots w (subAt bs k t.2) ts bs'
theorem cnt_sub {bs : List Bx} {i : Nat} (hi : i < bs.length) (m : Int) (k : Nat) : cntAt (subAt bs i m) k = if k = i then cntAt bs i - m else cntAt bs k := by
  have h := subAt_at hi m k
  unfold cntAt
  show ((subAt bs i m).getD k z3).2.1 = _
  rw [h]
  split <;> rfl
theorem lot_sub {bs : List Bx} {i : Nat} (hi : i < bs.length) (m : Int) (k : Nat) : ((subAt bs i m).getD k z3).1 = (bs.getD k z3).1 := by
  rw [subAt_at hi]
  split
  · rename_i e; rw [e]
  · rfl
theorem has_lot {lots : List Lt} {w : Wt} {a b : Bx} (h : a.1 = b.1) : hasF lots w a = hasF lots w b := by
  unfold hasF lotAt
  rw [h]
theorem exp_lot {lots : List Lt} {bs cs : List Bx} {k : Nat} (h : (bs.getD k z3).1 = (cs.getD k z3).1) : expAt lots bs k = expAt lots cs k := by
  have h' : (bs.getD k (0, 0, 0)).1 = (cs.getD k (0, 0, 0)).1 := h
  unfold expAt lotAt
  rw [h']
def sumT (ts : List Tk) : Int := sumI (ts.map (fun t => t.2))
structure Srv (lots : List Lt) (w : Wt) (l : List Nat) (need : Int) (bs : List Bx) (need' : Int) (bs' : List Bx) (ts : List Tk) : Prop where
  srv : Serves lots w bs ts bs'
  nn : 0 ≤ need'
  sum : need' + sumT ts = need
  mem : ∀ t ∈ ts, ∃ k ∈ l, t.1 = (k : Int)
  nodup : (ts.map (fun t => t.1)).Nodup
  far : ∀ k, k ∉ l → bs'.getD k z3 = bs.getD k z3
  order : ∀ key, Srt key l → ∀ k ∈ l, 0 < cntAt bs' k → ∀ t ∈ ts, key t.1.toNat ≤ key k
  dry : 0 < need' → ∀ k ∈ l, cntAt bs' k = 0
theorem serve_spec {lots : List Lt} {w : Wt} : ∀ (l : List Nat) (need : Int) (bs : List Bx), 0 ≤ need → l.Nodup → (∀ i ∈ l, i < bs.length ∧ 0 < cntAt bs i ∧ hasF lots w (bs.getD i z3) = true) →
    Srv lots w l need bs (serve l need bs []).1 (serve l need bs []).2.1 (serve l need bs []).2.2
  | [], need, bs, h0, _, _ => by
    simp only [serve]
    exact ⟨rfl, h0, by simp [sumT, sumI], by simp, by simp, fun _ _ => rfl, by simp, by simp⟩
  | i :: r, need, bs, h0, hnd, hal => by
    obtain ⟨hi, hc, hf⟩ := hal i (List.mem_cons_self ..)
    obtain ⟨hir, hnr⟩ := List.nodup_cons.1 hnd
    by_cases hz : min need (cntAt bs i) = 0
    · have e : serve (i :: r) need bs [] = (need, bs, []) := by simp only [serve]; rw [if_pos hz]
      rw [e]
      have : need = 0 := by omega
      exact ⟨rfl, h0, by simp [sumT, sumI], by simp, by simp, fun _ _ => rfl, by simp, fun h => by simp only at h; omega⟩
    · generalize hm : min need (cntAt bs i) = m at *
      have hm1 : 1 ≤ m ∧ m ≤ need ∧ m ≤ cntAt bs i := by omega
      have e : serve (i :: r) need bs [] = ((serve r (need - m) (subAt bs i m) []).1, (serve r (need - m) (subAt bs i m) []).2.1, ((i : Int), m) :: (serve r (need - m) (subAt bs i m) []).2.2) := by
        simp only [serve, hm, List.nil_append]
        rw [if_neg hz, serve_acc]
        rfl
      have hr : ∀ k ∈ r, k < (subAt bs i m).length ∧ 0 < cntAt (subAt bs i m) k ∧ hasF lots w ((subAt bs i m).getD k z3) = true := by
        intro k hk
        obtain ⟨a1, a2, a3⟩ := hal k (List.mem_cons_of_mem _ hk)
        have hne : k ≠ i := fun e => hir (e ▸ hk)
        refine ⟨by rw [subAt_len]; exact a1, by rw [cnt_sub hi, if_neg hne]; exact a2, by rw [has_lot (lot_sub hi m k)]; exact a3⟩
      have ih := serve_spec r (need - m) (subAt bs i m) (by omega) hnr hr
      have hz0 : need - m = 0 → serve r (need - m) (subAt bs i m) [] = (0, subAt bs i m, []) := fun h => by rw [h]; exact serve_zero r _ (fun k hk => (hr k hk).2.1)
      rw [e]
      generalize hq : serve r (need - m) (subAt bs i m) [] = q at *
      obtain ⟨n', bs', ts⟩ := q
      simp only at ih ⊢
      have hfi := ih.far i hir
      have hci : cntAt bs' i = cntAt bs i - m := by
        have : cntAt bs' i = cntAt (subAt bs i m) i := by unfold cntAt; exact congrArg (fun x => x.2.1) hfi
        rw [this, cnt_sub hi, if_pos rfl]
      refine ⟨⟨i, rfl, hi, hm1.1, hm1.2.2, hf, ih.srv⟩, ih.nn, ?_, ?_, ?_, ?_, ?_, ?_⟩
      · have := ih.sum
        simp only [sumT, List.map_cons, sumI, List.foldr_cons] at this ⊢
        omega
      · intro t ht
        rcases List.mem_cons.1 ht with rfl | ht
        · exact ⟨i, List.mem_cons_self .., rfl⟩
        · obtain ⟨k, hk, e⟩ := ih.mem t ht
          exact ⟨k, List.mem_cons_of_mem _ hk, e⟩
      · rw [List.map_cons, List.nodup_cons]
        refine ⟨fun hmem => ?_, ih.nodup⟩
        obtain ⟨t, ht, e2⟩ := List.mem_map.1 hmem
        obtain ⟨k, hk, e3⟩ := ih.mem t ht
        simp only at e2
        have : k = i := by omega
        exact hir (this ▸ hk)
      · intro k hk
        have hki : k ≠ i := fun e => hk (e ▸ List.mem_cons_self ..)
        have hkr : k ∉ r := fun h => hk (List.mem_cons_of_mem _ h)
        rw [ih.far k hkr, subAt_at hi, if_neg hki]
      · intro key hs k hk hck t ht
        have hs' := List.pairwise_cons.1 hs
        rcases List.mem_cons.1 hk with rfl | hk
        · have : need - m = 0 := by omega
          have e9 := hz0 this
          injection e9 with _ e9
          injection e9 with _ e9
          subst e9
          rcases List.mem_cons.1 ht with rfl | ht
          · simp
          · cases ht
        · rcases List.mem_cons.1 ht with rfl | ht
          · simpa using hs'.1 k hk
          · exact ih.order key hs'.2 k hk hck t ht
      · intro hn k hk
        rcases List.mem_cons.1 hk with rfl | hk
        · have : ¬ need - m = 0 := fun h => by
            have e9 := hz0 h
            injection e9 with e9 _
            omega
          omega
        · exact ih.dry hn k hk
theorem Serves.same {lots : List Lt} {w : Wt} : ∀ {ts : List Tk} {bs bs' : List Bx}, Serves lots w bs ts bs' → bs'.length = bs.length ∧ (∀ k, (bs'.getD k z3).1 = (bs.getD k z3).1) ∧ ∀ k, cntAt bs' k ≤ cntAt bs k
  | [], bs, bs', h => by
    simp only [Serves] at h
    subst h
    exact ⟨rfl, fun _ => rfl, fun _ => Int.le_refl _⟩
  | t :: ts, bs, bs', h => by
    obtain ⟨k, e, hk, h1, h2, hf, hs⟩ := h
    obtain ⟨a1, a2, a3⟩ := hs.same
    refine ⟨by rw [a1, subAt_len], fun j => by rw [a2, lot_sub hk], fun j => ?_⟩
    have := a3 j
    rw [cnt_sub hk] at this
    split at this
    · rename_i e; subst e; omega
    · exact this
/-- What the order of a want is, as serve needs it. -/
theorem order_ok {lots : List Lt} {bs : List Bx} {w : Wt} : (orderL lots bs w).Nodup ∧ ∀ i ∈ orderL lots bs w, i < bs.length ∧ 0 < cntAt bs i ∧ hasF lots w (bs.getD i z3) = true := ⟨orderL_nodup _ _ _, fun _ h => orderL_mem.1 h⟩
def lastL (lots : List Lt) (bs : List Bx) (ts : List Tk) : Int := ts.foldl (fun a t => max a (expAt lots bs t.1.toNat)) (-1)
theorem lastL_take {lots : List Lt} {bs : List Bx} {ts : List Tk} {k : Nat} (h : k < ts.length) : lastL lots bs (ts.take (k + 1)) = max (lastL lots bs (ts.take k)) (expAt lots bs ts[k].1.toNat) := by
  unfold lastL
  rw [List.take_add_one, List.getElem?_eq_getElem h, Option.toList_some, List.foldl_append]
  rfl
theorem lastL_le {lots : List Lt} {bs : List Bx} {x : Int} (h0 : -1 ≤ x) : ∀ {ts : List Tk}, (∀ t ∈ ts, expAt lots bs t.1.toNat ≤ x) → lastL lots bs ts ≤ x := by
  have key : ∀ (ts : List Tk) (a : Int), a ≤ x → (∀ t ∈ ts, expAt lots bs t.1.toNat ≤ x) → ts.foldl (fun a t => max a (expAt lots bs t.1.toNat)) a ≤ x := by
    intro ts
    induction ts with
    | nil => intro a ha _; exact ha
    | cons t ts ih =>
      intro a ha h
      have h1 := h t (List.mem_cons_self ..)
      exact ih _ (show max a (expAt lots bs t.1.toNat) ≤ x by omega) (fun t ht => h t (List.mem_cons_of_mem _ ht))
  intro ts h
  exact key ts (-1) h0 h
/-- THE LAW: what is left of a box that fits does not expire before what was taken. -/
theorem first_law {lots : List Lt} {bs : List Bx} {w : Wt} {need : Int} {bs' : List Bx} {ts : List Tk} {n' : Int} (h : Srv lots w (orderL lots bs w) need bs n' bs' ts) {k : Nat} (hk : k < bs.length) (hf : hasF lots w (bs'.getD k z3) = true) (hc : 0 < cntAt bs' k) (he : 0 ≤ expAt lots bs' k) : lastL lots bs ts ≤ expAt lots bs' k := by
  obtain ⟨a1, a2, a3⟩ := h.srv.same
  have hko : k ∈ orderL lots bs w := orderL_mem.2 ⟨hk, by have := a3 k; omega, by
    have := has_lot (lots := lots) (w := w) (a2 k)
    rw [hf] at this
    exact this.symm⟩
  rw [exp_lot (a2 k)] at he ⊢
  exact lastL_le (by omega) (fun t ht => h.order (expAt lots bs) (orderL_srt _ _ _) k hko hc t ht)
/-- What Plan's outer loop does. -/
def Plans (lots : List Lt) : List Wt → List Bx → List (List Tk) → List Bx → Prop
  | [], bs, [], bs' => bs' = bs
  | w :: ws, bs, p :: ps, bs' => ∃ bs1, Srv lots w (orderL lots bs w) w.2.1 bs 0 bs1 p ∧ Plans lots ws bs1 ps bs'
  | _, _, _, _ => False
theorem plans_of {lots : List Lt} : ∀ {ws : List Wt} {bs : List Bx} {out : List (List Tk)} {r : List (List Tk) × List Bx}, (∀ w ∈ ws, 0 ≤ w.2.1) → planS lots ws bs out = some r → ∃ ps, r.1 = out ++ ps ∧ Plans lots ws bs ps r.2
  | [], bs, out, r, _, h => by
    simp only [planS, Option.some.injEq] at h
    subst h
    exact ⟨[], by simp, rfl⟩
  | w :: ws, bs, out, r, hw, h => by
    simp only [planS] at h
    split at h
    · cases h
    rename_i hn
    have hs := serve_spec (lots := lots) (w := w) (orderL lots bs w) w.2.1 bs (hw w (List.mem_cons_self ..)) order_ok.1 order_ok.2
    obtain ⟨ps, h1, h2⟩ := plans_of (fun x hx => hw x (List.mem_cons_of_mem _ hx)) h
    have h0 : (serve (orderL lots bs w) w.2.1 bs []).1 = 0 := by have := hs.nn; omega
    rw [h0] at hs
    exact ⟨_ :: ps, by rw [h1, List.append_assoc]; rfl, _, hs, h2⟩
theorem Plans.len {lots : List Lt} : ∀ {ws : List Wt} {bs bs' : List Bx} {ps : List (List Tk)}, Plans lots ws bs ps bs' → ps.length = ws.length
  | [], _, _, [], _ => rfl
  | [], _, _, _ :: _, h => by simp [Plans] at h
  | _ :: _, _, _, [], h => by simp [Plans] at h
  | w :: ws, bs, bs', p :: ps, h => by
    obtain ⟨b1, _, h2⟩ := h
    simp [h2.len]
theorem planL_ok {lots : List Lt} {bs : List Bx} {wants : List Wt} (h : (planL lots bs wants).2 = 0) : (∀ w ∈ wants, wantF w = true) ∧ ∃ bs', Plans lots wants bs (planL lots bs wants).1 bs' := by
  unfold planL at h ⊢
  split at h
  · exact absurd h (by decide)
  rename_i h1
  rw [if_neg h1]
  have hw : ∀ w ∈ wants, wantF w = true := fun w hw => by
    simp only [List.any_eq_true, not_exists, not_and] at h1
    have := h1 w hw
    simpa using this
  refine ⟨hw, ?_⟩
  cases hp : planS lots wants bs [] with
  | none => rw [hp] at h; exact absurd h (by decide)
  | some r =>
    obtain ⟨ps, e, h2⟩ := plans_of (fun w h => by
      have := hw w h
      simp only [wantF, btw, Bool.and_eq_true, decide_eq_true_eq] at this
      omega) hp
    simp only [List.nil_append] at e
    simp only [e]
    exact ⟨r.2, h2⟩
theorem planL_bad {lots : List Lt} {bs : List Bx} {wants : List Wt} (h : (planL lots bs wants).2 ≠ 0) : (planL lots bs wants).1 = [] := by
  unfold planL at h ⊢
  split
  · rfl
  rename_i h1
  rw [if_neg h1] at h
  cases hp : planS lots wants bs [] with
  | none => rfl
  | some r => rw [hp] at h; exact absurd rfl h
theorem right_exp {ks : List Kd} {lots : List Lt} {bs : List Bx} (h : rightS ks lots bs = true) {j : Nat} (hj : j < lots.length) : 0 ≤ lots[j].2.1 ∧ lots[j].2.1 ≤ 20000 := by
  have hl := List.all_eq_true.1 (right_kinds h).2.1 _ (List.getElem_mem hj)
  simp only [lotF, btw, Bool.and_eq_true, decide_eq_true_eq] at hl
  omega
theorem has_parts {lots : List Lt} {w : Wt} {b : Bx} (h : hasF lots w b = true) : 0 ≤ b.1 ∧ b.1 < lots.length := by
  simp only [hasF, Bool.and_eq_true, decide_eq_true_eq] at h
  exact h.1
end Go.Proofs.YtfpehakllnkaeaaGreatDoor
namespace Go.Proofs.YtfpehakllnkaeaaGreatDoor
open Go.RowKit Go.IntWalk

/-- By the key, then by the place. -/
def lex (key : Nat → Int) (a b : Nat) : Prop := key a < key b ∨ (key a = key b ∧ a < b)
theorem lex_trans {key : Nat → Int} {a b c : Nat} (h : lex key a b) (h2 : lex key b c) : lex key a c := by unfold lex at *; omega
theorem lex_asym {key : Nat → Int} {a b : Nat} (h : lex key a b) (h2 : lex key b a) : False := by unfold lex at *; omega
theorem insS_lex {key : Nat → Int} {x : Nat} {l : List Nat} (h : l.Pairwise (lex key)) (hx : ∀ y ∈ l, y < x) : (insS key x l).Pairwise (lex key) := by
  have hs : Srt key l := h.imp (fun h => by unfold lex at h; omega)
  have h0 : (l.takeWhile (fun y => decide (key y ≤ key x)) ++ l.dropWhile (fun y => decide (key y ≤ key x))).Pairwise (lex key) := by rwa [List.takeWhile_append_dropWhile]
  have h1 := List.pairwise_append.1 h0
  have hin : ∀ y ∈ l.takeWhile (fun y => decide (key y ≤ key x)), y < x := fun y hy => hx y ((List.takeWhile_subset _) hy)
  have hle : ∀ y ∈ l.takeWhile (fun y => decide (key y ≤ key x)), key y ≤ key x := fun y hy => by
    have := List.all_eq_true.1 (List.all_takeWhile (p := fun y => decide (key y ≤ key x)) (l := l)) y hy; simpa using this
  refine List.pairwise_append.2 ⟨h1.1, List.pairwise_cons.2 ⟨fun y hy => ?_, h1.2.1⟩, fun a ha b hb => ?_⟩
  · exact .inl (srt_tail_gt hs y hy)
  · rcases List.mem_cons.1 hb with rfl | hb
    · have := hin a ha; have := hle a ha; unfold lex; omega
    · exact h1.2.2 a ha b hb
theorem isort_lex (key : Nat → Int) (l : List Nat) (h : l.Pairwise (· < ·)) : (isort key l).Pairwise (lex key) := by
  have : ∀ (l acc : List Nat), acc.Pairwise (lex key) → (acc ++ l).Pairwise (fun a b => a ∈ acc → b ∈ l → a < b) → l.Pairwise (· < ·) → (∀ a ∈ acc, ∀ b ∈ l, a < b) → (l.foldl (fun acc x => insS key x acc) acc).Pairwise (lex key) := by
    intro l
    induction l with
    | nil => intro acc h _ _ _; exact h
    | cons x l ih =>
      intro acc h _ hl hac
      have hl' := List.pairwise_cons.1 hl
      refine ih _ (insS_lex h (fun y hy => hac y hy x (List.mem_cons_self ..))) ?_ hl'.2 ?_
      · refine List.pairwise_iff_forall_sublist.2 ?_
        intro a b _ ha hb
        rcases List.mem_cons.1 ((insS_perm key x acc).mem_iff.1 ha) with rfl | ha
        · exact hl'.1 b hb
        · exact hac a ha b (List.mem_cons_of_mem _ hb)
      · intro a ha b hb
        rcases List.mem_cons.1 ((insS_perm key x acc).mem_iff.1 ha) with rfl | ha
        · exact hl'.1 b hb
        · exact hac a ha b (List.mem_cons_of_mem _ hb)
  refine this l [] List.Pairwise.nil ?_ h (fun a ha => by cases ha)
  refine List.pairwise_iff_forall_sublist.2 ?_
  intro a b _ ha _
  cases ha
theorem orderL_lex (lots : List Lt) (bs : List Bx) (w : Wt) : (orderL lots bs w).Pairwise (lex (expAt lots bs)) :=
  isort_lex _ _ (List.pairwise_lt_range.filter _)
/-- A box that the reference looks at: it fits, is not empty, is not among some. -/
def cand (lots : List Lt) (bs : List Bx) (w : Wt) (but : List Int) (i : Nat) : Prop := i < bs.length ∧ cntAt bs i ≠ 0 ∧ hasF lots w (bs.getD i (0, 0, 0)) = true ∧ (i : Int) ∉ but
/-- What the reference's first returns: none of the first n, or the first one. -/
def FirstN (lots : List Lt) (bs : List Bx) (w : Wt) (but : List Int) (n : Nat) (r : Int) : Prop :=
  (r = -1 ∧ ∀ i, i < n → ¬ cand lots bs w but i) ∨ (∃ k : Nat, r = k ∧ k < n ∧ cand lots bs w but k ∧ ∀ i, i < n → cand lots bs w but i → i = k ∨ lex (expAt lots bs) k i)
theorem FirstN.uniq {lots : List Lt} {bs : List Bx} {w : Wt} {but : List Int} {n : Nat} {r s : Int} (h : FirstN lots bs w but n r) (h' : FirstN lots bs w but n s) : r = s := by
  rcases h with ⟨rfl, h1⟩ | ⟨k, rfl, hk, hc, h1⟩ <;> rcases h' with ⟨rfl, h1'⟩ | ⟨k', rfl, hk', hc', h1'⟩
  · rfl
  · exact absurd hc' (h1 _ hk')
  · exact absurd hc (h1' _ hk)
  · rcases h1 _ hk' hc' with e | e
    · rw [e]
    · rcases h1' _ hk hc with e2 | e2
      · rw [e2]
      · exact (lex_asym e e2).elim
/-- A step of first's loop. -/
theorem FirstN.skip {lots : List Lt} {bs : List Bx} {w : Wt} {but : List Int} {n : Nat} {r : Int} (h : FirstN lots bs w but n r) (hc : ¬ cand lots bs w but n) : FirstN lots bs w but (n + 1) r := by
  rcases h with ⟨rfl, h1⟩ | ⟨k, rfl, hk, hck, h1⟩
  · exact .inl ⟨rfl, fun i hi => by rcases Nat.lt_succ_iff_lt_or_eq.1 hi with h | rfl; exact h1 i h; exact hc⟩
  · exact .inr ⟨k, rfl, by omega, hck, fun i hi hci => by rcases Nat.lt_succ_iff_lt_or_eq.1 hi with h | rfl; exact h1 i h hci; exact absurd hci hc⟩
theorem FirstN.fresh {lots : List Lt} {bs : List Bx} {w : Wt} {but : List Int} {n : Nat} (h : FirstN lots bs w but n (-1)) (hc : cand lots bs w but n) : FirstN lots bs w but (n + 1) n := by
  rcases h with ⟨_, h1⟩ | ⟨k, hk, _⟩
  · exact .inr ⟨n, rfl, by omega, hc, fun i hi hci => by rcases Nat.lt_succ_iff_lt_or_eq.1 hi with h | rfl; exact absurd hci (h1 i h); exact .inl rfl⟩
  · omega
theorem FirstN.better {lots : List Lt} {bs : List Bx} {w : Wt} {but : List Int} {n b : Nat} (h : FirstN lots bs w but n (b : Int)) (hc : cand lots bs w but n) (hl : expAt lots bs n < expAt lots bs b) : FirstN lots bs w but (n + 1) n := by
  rcases h with ⟨h0, _⟩ | ⟨k, hk, hkn, hck, h1⟩
  · omega
  · obtain rfl : b = k := by omega
    exact .inr ⟨n, rfl, by omega, hc, fun i hi hci => by
      rcases Nat.lt_succ_iff_lt_or_eq.1 hi with h | rfl
      · right
        rcases h1 i h hci with rfl | h2
        · exact .inl hl
        · unfold lex at *; omega
      · exact .inl rfl⟩
theorem FirstN.stays {lots : List Lt} {bs : List Bx} {w : Wt} {but : List Int} {n b : Nat} (h : FirstN lots bs w but n (b : Int)) (hc : cand lots bs w but n) (hl : ¬ expAt lots bs n < expAt lots bs b) : FirstN lots bs w but (n + 1) b := by
  rcases h with ⟨h0, _⟩ | ⟨k, hk, hkn, hck, h1⟩
  · omega
  · obtain rfl : b = k := by omega
    exact .inr ⟨b, rfl, by omega, hck, fun i hi hci => by
      rcases Nat.lt_succ_iff_lt_or_eq.1 hi with h | rfl
      · exact h1 i h hci
      · right; unfold lex; omega⟩
def natsI (l : List Nat) : List Int := toI l
/-- Counts are never negative. -/
def CntNN (bs : List Bx) : Prop := ∀ i, 0 ≤ cntAt bs i
theorem cntNN_of {bs : List Bx} (h : ∀ x ∈ bs, 0 ≤ x.2.1) : CntNN bs := by
  intro i
  unfold cntAt
  rw [List.getD_eq_getElem?_getD]
  cases hi : bs[i]? with
  | none => simp
  | some x => simpa using h x (List.mem_of_getElem? hi)
/-- The first one that is not among the first k of the order is the next one. -/
theorem order_first {lots : List Lt} {bs : List Bx} {w : Wt} (hn : CntNN bs) {k : Nat} (hk : k ≤ (orderL lots bs w).length) :
    FirstN lots bs w (natsI ((orderL lots bs w).take k)) bs.length (if h : k < (orderL lots bs w).length then (((orderL lots bs w)[k] : Nat) : Int) else -1) := by
  have hlex := orderL_lex lots bs w
  have hmem : ∀ i, cand lots bs w (natsI ((orderL lots bs w).take k)) i ↔ i ∈ (orderL lots bs w).drop k := by
    intro i
    have hnd := orderL_nodup lots bs w
    have hin : i ∈ orderL lots bs w ↔ i ∈ (orderL lots bs w).take k ∨ i ∈ (orderL lots bs w).drop k := by
      conv => lhs; rw [← List.take_append_drop k (orderL lots bs w)]
      exact List.mem_append
    have hdis : ∀ j, j ∈ (orderL lots bs w).take k → j ∈ (orderL lots bs w).drop k → False := by
      intro j h1 h2
      rw [← List.take_append_drop k (orderL lots bs w)] at hnd
      exact (List.nodup_append.1 hnd).2.2 j h1 j h2 rfl
    have hnat : (i : Int) ∉ natsI ((orderL lots bs w).take k) ↔ i ∉ (orderL lots bs w).take k := by
      unfold natsI toI
      constructor
      · intro h h2; exact h (List.mem_map.2 ⟨i, h2, rfl⟩)
      · intro h h2
        obtain ⟨j, hj, e⟩ := List.mem_map.1 h2
        have : j = i := by omega
        subst this
        exact h hj
    constructor
    · rintro ⟨h1, h2, h3, h4⟩
      have := hn i
      rcases hin.1 (orderL_mem.2 ⟨h1, by omega, h3⟩) with h | h
      · exact absurd h (hnat.1 h4)
      · exact h
    · intro h
      obtain ⟨h1, h2, h3⟩ := orderL_mem.1 (hin.2 (.inr h))
      exact ⟨h1, by omega, h3, hnat.2 (fun h4 => hdis i h4 h)⟩
  by_cases hlt : k < (orderL lots bs w).length
  · rw [dif_pos hlt]
    have hd : (orderL lots bs w).drop k = (orderL lots bs w)[k] :: (orderL lots bs w).drop (k + 1) := (List.drop_eq_getElem_cons hlt)
    have hp : ((orderL lots bs w).drop k).Pairwise (lex (expAt lots bs)) := hlex.sublist (List.drop_sublist _ _)
    rw [hd] at hp
    have hp' := List.pairwise_cons.1 hp
    have hc : cand lots bs w (natsI ((orderL lots bs w).take k)) (orderL lots bs w)[k] := (hmem _).2 (by rw [hd]; exact List.mem_cons_self ..)
    refine .inr ⟨_, rfl, hc.1, hc, fun i _ hci => ?_⟩
    have := (hmem i).1 hci
    rw [hd] at this
    rcases List.mem_cons.1 this with h | h
    · exact .inl h
    · exact .inr (hp'.1 i h)
  · rw [dif_neg hlt]
    refine .inl ⟨rfl, fun i _ hci => ?_⟩
    have := (hmem i).1 hci
    rw [List.drop_eq_nil_of_le (by omega)] at this
    cases this
end Go.Proofs.YtfpehakllnkaeaaGreatDoor
namespace Go.Proofs.YtfpehakllnkaeaaGreatDoor
open Go.RowKit Go.IntWalk

theorem cnt_def (bs : List Bx) (i : Nat) : cntAt bs i = (bs.getD i z3).2.1 := rfl
/-- k boxes of the order have been served. -/
structure PS (lots : List Lt) (bs : List Bx) (w : Wt) (k : Nat) (need : Int) (left : List Bx) (ts : List Tk) : Prop where
  kl : k ≤ (orderL lots bs w).length
  eq : serve (orderL lots bs w) w.2.1 bs [] = serve ((orderL lots bs w).drop k) need left ts
  nn : 0 ≤ need
  len : left.length = bs.length
  lot : ∀ i, (left.getD i z3).1 = (bs.getD i z3).1
  dry : 0 < need → ∀ i ∈ (orderL lots bs w).take k, cntAt left i = 0
  far : ∀ i, i ∉ (orderL lots bs w).take k → left.getD i z3 = bs.getD i z3
  cnn : CntNN left
theorem PS.start {lots : List Lt} {bs : List Bx} {w : Wt} (h : CntNN bs) (hw : 0 ≤ w.2.1) : PS lots bs w 0 w.2.1 bs [] :=
  ⟨Nat.zero_le _, by rw [List.drop_zero], hw, rfl, fun _ => rfl, fun _ i hi => by simp at hi, fun _ _ => rfl, h⟩
theorem not_take {l : List Nat} (h : l.Nodup) {k : Nat} (hk : k < l.length) : l[k] ∉ l.take k := by
  intro hm
  rw [← List.take_append_drop k l] at h
  exact (List.nodup_append.1 h).2.2 _ hm _ (by rw [List.drop_eq_getElem_cons hk]; exact List.mem_cons_self ..) rfl
/-- What the reference finds next. -/
theorem PS.first {lots : List Lt} {bs : List Bx} {w : Wt} {k : Nat} {need : Int} {left : List Bx} {ts : List Tk} (h : PS lots bs w k need left ts) (hn : CntNN bs) (hpos : 0 < need) :
    FirstN lots left w [] left.length (if h : k < (orderL lots bs w).length then (((orderL lots bs w)[k] : Nat) : Int) else -1) := by
  have ho := order_first (lots := lots) (w := w) hn h.kl
  have he : ∀ i, expAt lots left i = expAt lots bs i := fun i => exp_lot (h.lot i)
  have hc : ∀ i, cand lots left w [] i ↔ cand lots bs w (natsI ((orderL lots bs w).take k)) i := by
    intro i
    have hlot : hasF lots w (left.getD i (0, 0, 0)) = hasF lots w (bs.getD i (0, 0, 0)) := has_lot (h.lot i)
    have hnat : (i : Int) ∉ natsI ((orderL lots bs w).take k) ↔ i ∉ (orderL lots bs w).take k := by
      unfold natsI toI
      constructor
      · intro h h2; exact h (List.mem_map.2 ⟨i, h2, rfl⟩)
      · intro h h2
        obtain ⟨j, hj, e⟩ := List.mem_map.1 h2
        have : j = i := by omega
        subst this
        exact h hj
    unfold cand
    rw [hlot, h.len, hnat]
    by_cases hm : i ∈ (orderL lots bs w).take k
    · have := h.dry hpos i hm
      simp [hm, this]
    · have := h.far i hm
      have e : cntAt left i = cntAt bs i := by rw [cnt_def, cnt_def, this]
      rw [e]
      simp [hm]
  rw [h.len]
  rcases ho with ⟨e, h1⟩ | ⟨j, e, hj, hcj, h1⟩
  · exact .inl ⟨e, fun i hi hc' => h1 i hi ((hc i).1 hc')⟩
  · refine .inr ⟨j, e, hj, (hc j).2 hcj, fun i hi hci => ?_⟩
    rcases h1 i hi ((hc i).1 hci) with h2 | h2
    · exact .inl h2
    · right; unfold lex at *; rw [he, he]; exact h2
theorem PS.none {lots : List Lt} {bs : List Bx} {w : Wt} {k : Nat} {need : Int} {left : List Bx} {ts : List Tk} (h : PS lots bs w k need left ts) (hk : ¬ k < (orderL lots bs w).length) : serve (orderL lots bs w) w.2.1 bs [] = (need, left, ts) := by
  rw [h.eq, List.drop_eq_nil_of_le (by omega)]
  rfl
theorem PS.step {lots : List Lt} {bs : List Bx} {w : Wt} {k : Nat} {need : Int} {left : List Bx} {ts : List Tk} (h : PS lots bs w k need left ts) (hpos : 0 < need) (hk : k < (orderL lots bs w).length) :
    (orderL lots bs w)[k] < left.length ∧ 0 < cntAt left (orderL lots bs w)[k] ∧
    PS lots bs w (k + 1) (need - min need (cntAt left (orderL lots bs w)[k])) (subAt left (orderL lots bs w)[k] (min need (cntAt left (orderL lots bs w)[k]))) (ts ++ [((((orderL lots bs w)[k] : Nat) : Int), min need (cntAt left (orderL lots bs w)[k]))]) := by
  have hnt := not_take (orderL_nodup lots bs w) hk
  obtain ⟨m1, m2, m3⟩ := orderL_mem.1 (List.getElem_mem hk)
  have hfar := h.far _ hnt
  have hcnt : cntAt left (orderL lots bs w)[k] = cntAt bs (orderL lots bs w)[k] := by rw [cnt_def, cnt_def, hfar]
  have hlt : (orderL lots bs w)[k] < left.length := by rw [h.len]; exact m1
  have hd : (orderL lots bs w).drop k = (orderL lots bs w)[k] :: (orderL lots bs w).drop (k + 1) := List.drop_eq_getElem_cons hk
  have htk : (orderL lots bs w).take (k + 1) = (orderL lots bs w).take k ++ [(orderL lots bs w)[k]] := by rw [List.take_add_one, List.getElem?_eq_getElem hk]; rfl
  have heq := h.eq
  rw [hd] at heq
  simp only [serve] at heq
  rw [if_neg (by omega)] at heq
  refine ⟨hlt, by omega, ⟨by omega, heq, by omega, ?_, fun i => ?_, fun hp i hi => ?_, fun i hi => ?_, fun i => ?_⟩⟩
  · unfold subAt; rw [List.length_set]; exact h.len
  · rw [lot_sub hlt]; exact h.lot i
  · rw [cnt_sub hlt]
    rw [htk] at hi
    rcases List.mem_append.1 hi with hi | hi
    · split
      · omega
      · exact h.dry hpos i hi
    · rw [List.mem_singleton.1 hi, if_pos rfl]
      omega
  · rw [htk] at hi
    have hne : i ≠ (orderL lots bs w)[k] := fun e => hi (List.mem_append_right _ (by rw [e]; exact List.mem_singleton.2 rfl))
    have h2 := subAt_at hlt (min need (cntAt left (orderL lots bs w)[k])) i
    rw [if_neg hne] at h2
    rw [h2]
    exact h.far i (fun hm => hi (List.mem_append_left _ hm))
  · rw [cnt_sub hlt]
    have := h.cnn i
    split
    · omega
    · exact this
theorem PS.done {lots : List Lt} {bs : List Bx} {w : Wt} {k : Nat} {left : List Bx} {ts : List Tk} (h : PS lots bs w k 0 left ts) : serve (orderL lots bs w) w.2.1 bs [] = (0, left, ts) := by
  rw [h.eq, serve_acc]
  have hz := serve_zero ((orderL lots bs w).drop k) left (fun i hi => by
    have hnt : i ∉ (orderL lots bs w).take k := by
      intro hm
      have hnd := orderL_nodup lots bs w
      rw [← List.take_append_drop k (orderL lots bs w)] at hnd
      exact (List.nodup_append.1 hnd).2.2 _ hm _ hi rfl
    have h1 := h.far i hnt
    have h2 := (orderL_mem.1 (List.mem_of_mem_drop hi)).2.1
    rw [cnt_def, h1, ← cnt_def]; exact h2)
  rw [hz]
  simp
end Go.Proofs.YtfpehakllnkaeaaGreatDoor
namespace Go.Proofs.YtfpehakllnkaeaaGreatDoor
open Go.RowKit Go.IntWalk

set_option maxRecDepth 100000 in
set_option maxHeartbeats 8000000 in
theorem rsright_any (A B C : Option Addr) (c d e0 : Nat) (ks : List Kd) (lots : List Lt) (bs : List Bx) (w : World) (hk : ks.length ≤ maxLen) (hl : lots.length ≤ maxLen) (hb : bs.length ≤ maxLen) (h1 : SlR w w.heap.size A ks) (h2 : SlR w w.heap.size B lots) (h3 : SlR w w.heap.size C bs) :
    Calls Tryz.prog 10 #[.slice A ks.length c, .slice B lots.length d, .slice C bs.length e0] w fun e w' => e = .returned (.bool (rightS ks lots bs)) ∧ Below w.heap.size w w' := by
  unfold maxLen at hk hl hb
  have HR := hid (show rightS ks lots bs = (decide (lots.length ≤ 2000) && decide (bs.length ≤ 3000) && (namesF [] ks && decide (ks.length ≤ 500)) && lots.all (lotF ks.length) && bs.all (boxF lots.length) && decide (unitsL bs ≤ 20000)) from rfl)
  by_cases hk2 : ks.length ≤ 500
  case neg =>
    have hf := hid (show rightS ks lots bs = false by rw [HR.out]; simp [hk2])
    have hl3 : (500 : Int) < ks.length := by omega
    clear hk2
    as_aux_lemma =>
      go_enter Tryz.func10, Tryz.ntmps10
      go_wp2_with fail
      go_ret
      exact ⟨ret_bool hf.out.symm, Below.refl _ _⟩
  have hkI : (ks.length : Int) ≤ 500 := by omega
  by_cases hl2 : lots.length ≤ 2000
  case neg =>
    have hf := hid (show rightS ks lots bs = false by rw [HR.out]; simp [hl2])
    have hl3 : (2000 : Int) < lots.length := by omega
    clear hl2 hk2
    as_aux_lemma =>
      go_enter Tryz.func10, Tryz.ntmps10
      go_wp2_with fail
      go_ret
      exact ⟨ret_bool hf.out.symm, Below.refl _ _⟩
  have hlI : (lots.length : Int) ≤ 2000 := by omega
  by_cases hb2 : bs.length ≤ 3000
  case neg =>
    have hf := hid (show rightS ks lots bs = false by rw [HR.out]; simp [hb2])
    have hl3 : (3000 : Int) < bs.length := by omega
    clear hb2 hl2 hk2
    as_aux_lemma =>
      go_enter Tryz.func10, Tryz.ntmps10
      go_wp2_with fail
      go_ret
      exact ⟨ret_bool hf.out.symm, Below.refl _ _⟩
  have hbI : (bs.length : Int) ≤ 3000 := by omega
  have HK2 := hid hk2; have HL2 := hid hl2; have HB2 := hid hb2
  clear hk2 hl2 hb2
  go_enter Tryz.func10, Tryz.ntmps10
  go_wp2_with fail
  go_loopw [7] (fun i wr => ∃ k : Nat, k ≤ ks.length ∧ i = .int .i64 k ∧ Hid (namesF [] ks = namesF (namesOf (ks.take k)) (ks.drop k)) ∧ Below w.heap.size w wr) (fun i _ => ks.length - (intOf i).toNat)
  case atStart => exact ⟨0, by omega, rfl, by simp [Hid, namesOf], Below.refl _ _⟩
  case round =>
    obtain ⟨k, hk9, rfl, hN, hB⟩ := hrel
    have HB := hid hB
    clear hB
    by_cases hlt : k < ks.length
    case pos =>
      have hltI : (k : Int) < ks.length := by omega
      have HST := hid (namesF_step hlt)
      obtain ⟨b, off, rfl, hbz, c0, c1, hsz, -⟩ := h1.kd hlt
      replace c0 := (bcell HB.out b _ hbz).trans c0
      replace c1 := (bcell HB.out b _ hbz).trans c1
      have hz : b < wr.heap.size := by have := HB.out.size; omega
      have HXK := hid (show ∀ j, j < ks.length → ∃ (hj : j < ks.length), w.cell? ⟨b, off + j * 2, none⟩ = some (.string ks[j].1) from fun j hj => by
        obtain ⟨b', off', e1, _, g0, _⟩ := h1.kd hj
        injection e1 with e1
        injection e1 with e2 e3 _
        subst e2 e3
        exact ⟨hj, g0⟩)
      have HKK := hid (show kindF ks[k] = (btw ks[k].1.size 1 20 && btw ks[k].2 1 10000) from rfl)
      generalize hx : ks[k] = x at *
      have HX := hid hx
      clear hx
      obtain ⟨xs, xw⟩ := x
      simp only at c0 c1 hsz HKK
      have hmx : xs.size ≤ 9223372036854775807 := by unfold maxLen at hsz; omega
      clear hsz
      by_cases hkf : kindF (xs, xw) = true
      case neg =>
        have hf := hid (show rightS ks lots bs = false by rw [HR.out, hN.out, HST.out]; simp [hkf])
        have hcs : ((xs.size : Int) < 1) ∨ (¬ (xs.size : Int) < 1 ∧ (20 : Int) < xs.size) ∨ (¬ (xs.size : Int) < 1 ∧ ¬ (20 : Int) < xs.size ∧ xw < 1) ∨ (¬ (xs.size : Int) < 1 ∧ ¬ (20 : Int) < xs.size ∧ ¬ xw < 1 ∧ 10000 < xw) := by
          rw [HKK.out] at hkf
          simp only [btw, Bool.and_eq_true, decide_eq_true_eq] at hkf
          omega
        clear hkf hN HST HXK HX HKK
        rcases hcs with q1 | ⟨q1, q2⟩ | ⟨q1, q2, q3⟩ | ⟨q1, q2, q3, q4⟩
        all_goals
          as_aux_lemma =>
            go_wp2_with fail
            go_ret
            exact ⟨ret_bool hf.out.symm, HB.out⟩
      case pos =>
        have hcs : ¬ (xs.size : Int) < 1 ∧ ¬ (20 : Int) < xs.size ∧ ¬ xw < 1 ∧ ¬ 10000 < xw := by
          have h5 := HKK.out
          rw [hkf] at h5
          have h6 := h5.symm
          simp only [btw, Bool.and_eq_true, decide_eq_true_eq] at h6
          omega
        obtain ⟨q1, q2, q3, q4⟩ := hcs
        have HKF := hid hkf
        clear hkf HKK
        go_wp2_with fail
        clear q1 q2 q3 q4
        go_loopw [8] (fun i wr => ∃ j : Nat, j ≤ k ∧ i = .int .i64 j ∧ Hid ((namesOf (ks.take j)).any (fun y => decide (xs = y)) = false) ∧ Below w.heap.size w wr) (fun i _ => k - (intOf i).toNat)
        case atStart => exact ⟨0, by omega, rfl, by simp [Hid, namesOf], HB.out⟩
        case round =>
          clear c0 c1 HB hz
          obtain ⟨j, hj9, rfl, hA, hB⟩ := hrel
          have HB := hid hB
          clear hB
          have hz : b < wr.heap.size := by have := HB.out.size; omega
          obtain ⟨_, d0⟩ := HXK.out k hlt
          rw [HX.out] at d0
          replace d0 := (bcell HB.out b _ hbz).trans d0
          by_cases hjk : j < k
          case pos =>
            have hjI : (j : Int) < k := by omega
            have hjl : (j : Int) < ks.length := by omega
            obtain ⟨hjj, g0⟩ := HXK.out j (by omega)
            replace g0 := (bcell HB.out b _ hbz).trans g0
            have HAS := hid (show (namesOf (ks.take (j + 1))).any (fun y => decide (xs = y)) = ((namesOf (ks.take j)).any (fun y => decide (xs = y)) || decide (xs = ks[j].1)) by
              unfold namesOf
              rw [List.take_add_one, List.getElem?_eq_getElem hjj, List.map_append, List.any_append]
              simp)
            have HAK := hid (show xs = ks[j].1 → (namesOf (ks.take k)).any (fun y => decide (xs = y)) = true from fun e => by
              rw [List.any_eq_true]
              refine ⟨ks[j].1, ?_, by simp [e]⟩
              unfold namesOf
              refine List.mem_map.2 ⟨ks[j], ?_, rfl⟩
              exact List.mem_take_iff_getElem.2 ⟨j, by omega, rfl⟩)
            generalize ks[j] = y at *
            obtain ⟨ys, yw⟩ := y
            simp only at g0 HAS HAK
            by_cases hxy : ys = xs
            · have hf := hid (show rightS ks lots bs = false by rw [HR.out, hN.out, HST.out, HAK.out hxy.symm]; simp)
              subst hxy
              clear HAS HAK
              as_aux_lemma =>
                go_wp2_with fail
                go_quiet (fail)
                go_wp2_with fail
                go_ret
                exact ⟨ret_bool hf.out.symm, below_drewN HB.out _⟩
            · have hyx : ¬ xs = ys := fun e => hxy e.symm
              have hf := hid (show (namesOf (ks.take (j + 1))).any (fun y => decide (xs = y)) = false by rw [HAS.out, hA.out]; simp [hyx])
              clear hyx
              have hbe := bytes_ne hxy
              clear HAS HAK hxy
              as_aux_lemma =>
                go_wp2_with fail
                go_quiet (fail)
                go_wp2_with fail
                go_roundw
                case rel => exact ⟨j + 1, by omega, by go_num, hf, below_drewN HB.out _⟩
                case measure => simp [intOf]; omega
          case neg =>
            obtain rfl : j = k := by omega
            have hf := hid (show namesF [] ks = namesF (namesOf (ks.take (j + 1))) (ks.drop (j + 1)) by
              rw [hN.out, HST.out, HKF.out, hA.out]; rfl)
            as_aux_lemma =>
              go_wp2_with fail
              go_roundw
              case rel => exact ⟨j + 1, by omega, by go_num, hf, HB.out⟩
              case measure => simp [intOf]; omega
    case neg =>
    obtain rfl : k = ks.length := by omega
    have HNA := hid (show namesF [] ks = true by rw [hN.out, List.drop_length]; rfl)
    clear hN hlt hk9 h1
    go_wp2_with fail
    go_loopw [9] (fun i wr => ∃ k : Nat, k ≤ lots.length ∧ i = .int .i64 k ∧ Hid (lots.all (lotF ks.length) = (lots.drop k).all (lotF ks.length)) ∧ Below w.heap.size w wr) (fun i _ => lots.length - (intOf i).toNat)
    case atStart => exact ⟨0, by omega, rfl, by simp [Hid], HB.out⟩
    case round =>
      clear HB
      obtain ⟨k, hk9, rfl, hA, hB⟩ := hrel
      have HB := hid hB
      clear hB
      by_cases hlt : k < lots.length
      case pos =>
        have hltI : (k : Int) < lots.length := by omega
        have HST := hid (all_drop (p := lotF ks.length) hlt)
        obtain ⟨b, off, rfl, hbz, c0, c1, c2, -, -⟩ := h2.lt hlt
        replace c0 := (bcell HB.out b _ hbz).trans c0
        replace c1 := (bcell HB.out b _ hbz).trans c1
        have hz : b < wr.heap.size := by have := HB.out.size; omega
        clear c2
        generalize lots[k] = x at *
        obtain ⟨lk, le, lf⟩ := x
        simp only at c0 c1
        have hlf := hid (show lotF ks.length (lk, le, lf) = (btw lk 0 (ks.length - 1) && btw le 0 20000) from rfl)
        by_cases hkf : lotF ks.length (lk, le, lf) = true
        case neg =>
          have hf := hid (show rightS ks lots bs = false by rw [HR.out, hA.out, HST.out]; simp [hkf])
          have hcs : (lk < 0) ∨ (¬ lk < 0 ∧ (ks.length : Int) ≤ lk) ∨ (¬ lk < 0 ∧ ¬ (ks.length : Int) ≤ lk ∧ le < 0) ∨ (¬ lk < 0 ∧ ¬ (ks.length : Int) ≤ lk ∧ ¬ le < 0 ∧ 20000 < le) := by
            rw [hlf.out] at hkf
            simp only [btw, Bool.and_eq_true, decide_eq_true_eq] at hkf
            omega
          clear hkf hA HST hlf
          rcases hcs with q1 | ⟨q1, q2⟩ | ⟨q1, q2, q3⟩ | ⟨q1, q2, q3, q4⟩
          all_goals
            as_aux_lemma =>
              go_wp2_with fail
              go_ret
              exact ⟨ret_bool hf.out.symm, HB.out⟩
        case pos =>
          have hcs : ¬ lk < 0 ∧ ¬ (ks.length : Int) ≤ lk ∧ ¬ le < 0 ∧ ¬ 20000 < le := by
            have h5 := hlf.out
            rw [hkf] at h5
            have h6 := h5.symm
            simp only [btw, Bool.and_eq_true, decide_eq_true_eq] at h6
            omega
          obtain ⟨q1, q2, q3, q4⟩ := hcs
          have hf := hid (show lots.all (lotF ks.length) = (lots.drop (k + 1)).all (lotF ks.length) by rw [hA.out, HST.out, hkf]; rfl)
          clear hkf hA HST hlf
          as_aux_lemma =>
            go_wp2_with fail
            go_roundw
            case rel => exact ⟨k + 1, by omega, by go_num, hf, HB.out⟩
            case measure => simp [intOf]; omega
      case neg =>
      obtain rfl : k = lots.length := by omega
      have HLA := hid (show lots.all (lotF ks.length) = true by rw [hA.out, List.drop_length]; rfl)
      clear hA hlt hk9 h2
      go_wp2_with fail
      go_loopw [10, 11] (fun sv i wr => ∃ k : Nat, k ≤ bs.length ∧ i = .int .i64 k ∧ sv = .int .i64 (unitsL (bs.take k)) ∧ 0 ≤ unitsL (bs.take k) ∧ unitsL (bs.take k) ≤ 20000 * k ∧ Hid (bs.all (boxF lots.length) = (bs.drop k).all (boxF lots.length)) ∧ Below w.heap.size w wr) (fun _ i _ => bs.length - (intOf i).toNat)
      case atStart => exact ⟨0, by omega, rfl, rfl, by simp [unitsL, sumI], by simp [unitsL, sumI], by simp [Hid], HB.out⟩
      case round =>
        clear HB
        obtain ⟨k, hk9, rfl, rfl, hu0, hu1, hA, hB⟩ := hrel
        have HB := hid hB
        have hwz := hB.size
        clear hB
        by_cases hlt : k < bs.length
        case pos =>
          have hltI : (k : Int) < bs.length := by omega
          have HST := hid (all_drop (p := boxF lots.length) hlt)
          have HUT := hid (unitsL_take hlt)
          obtain ⟨b, off, rfl, hbz, c0, c1, c2, -⟩ := h3.i3 hlt
          replace c0 := (bcell HB.out b _ hbz).trans c0
          replace c1 := (bcell HB.out b _ hbz).trans c1
          replace c2 := (bcell HB.out b _ hbz).trans c2
          have hz : b < wr.heap.size := by omega
          generalize bs[k] = x at *
          obtain ⟨x0, x1, x2⟩ := x
          simp only at c0 c1 c2 HUT
          have hbf := hid (show boxF lots.length (x0, x1, x2) = (btw x2 0 1000000 && btw x0 (-1) (lots.length - 1) && btw x1 0 20000 && (decide (0 ≤ x0) || decide (x1 = 0))) from rfl)
          have B3 := hid (show Below w.heap.size w (wr.alloc (Obj.cells #[.int .i64 x0, .int .i64 x1, .int .i64 x2] 45)) from HB.out.alloc hwz _)
          generalize unitsL (bs.take k) = s at *
          by_cases hkf : boxF lots.length (x0, x1, x2) = true
          case neg =>
            have hf := hid (show rightS ks lots bs = false by rw [HR.out, hA.out, HST.out]; simp [hkf])
            have hcs : (x2 < 0) ∨ (¬ x2 < 0 ∧ 1000000 < x2) ∨ (¬ x2 < 0 ∧ ¬ 1000000 < x2 ∧ x0 < -1) ∨ (¬ x2 < 0 ∧ ¬ 1000000 < x2 ∧ ¬ x0 < -1 ∧ (lots.length : Int) ≤ x0) ∨ (¬ x2 < 0 ∧ ¬ 1000000 < x2 ∧ ¬ x0 < -1 ∧ ¬ (lots.length : Int) ≤ x0 ∧ x1 < 0) ∨ (¬ x2 < 0 ∧ ¬ 1000000 < x2 ∧ ¬ x0 < -1 ∧ ¬ (lots.length : Int) ≤ x0 ∧ ¬ x1 < 0 ∧ 20000 < x1) ∨ (¬ x2 < 0 ∧ ¬ 1000000 < x2 ∧ ¬ x0 < -1 ∧ ¬ (lots.length : Int) ≤ x0 ∧ ¬ x1 < 0 ∧ ¬ 20000 < x1 ∧ x0 < 0 ∧ 0 < x1) := by
              rw [hbf.out] at hkf
              simp only [btw, Bool.and_eq_true, Bool.or_eq_true, decide_eq_true_eq] at hkf
              omega
            clear hkf hA HST hbf HUT
            rcases hcs with q1 | ⟨q1, q2⟩ | ⟨q1, q2, q3⟩ | ⟨q1, q2, q3, q4⟩ | ⟨q1, q2, q3, q4, q5⟩ | ⟨q1, q2, q3, q4, q5, q6⟩ | ⟨q1, q2, q3, q4, q5, q6, q7, q8⟩
            all_goals
              as_aux_lemma =>
                go_wp2_with fail
                go_ret
                exact ⟨ret_bool hf.out.symm, B3.out⟩
          case pos =>
            have hcs : ¬ x2 < 0 ∧ ¬ 1000000 < x2 ∧ ¬ x0 < -1 ∧ ¬ (lots.length : Int) ≤ x0 ∧ ¬ x1 < 0 ∧ ¬ 20000 < x1 ∧ (0 ≤ x0 ∨ x1 = 0) := by
              have h5 := hbf.out
              rw [hkf] at h5
              have h6 := h5.symm
              simp only [btw, Bool.and_eq_true, Bool.or_eq_true, decide_eq_true_eq] at h6
              omega
            obtain ⟨q1, q2, q3, q4, q5, q6, q7⟩ := hcs
            have hf := hid (show bs.all (boxF lots.length) = (bs.drop (k + 1)).all (boxF lots.length) by rw [hA.out, HST.out, hkf]; rfl)
            have hwr : IntKind.i64.wrap (s + x1) = s + x1 := IntWalk.i64_in _ (by omega)
            have hn0 := hid (show 0 ≤ unitsL (bs.take (k + 1)) by rw [HUT.out]; omega)
            have hn1 := hid (show unitsL (bs.take (k + 1)) ≤ 20000 * ((k + 1 : Nat) : Int) by rw [HUT.out]; omega)
            clear hkf hA HST hbf
            by_cases hx0 : x0 < 0
            · have hx1 : ¬ 0 < x1 := by omega
              as_aux_lemma =>
                go_wp2_with fail
                go_roundw
                case rel => exact ⟨k + 1, by omega, by go_num, by rw [HUT.out], hn0.out, hn1.out, hf, B3.out⟩
                case measure => simp [intOf]; omega
            · as_aux_lemma =>
                go_wp2_with fail
                go_roundw
                case rel => exact ⟨k + 1, by omega, by go_num, by rw [HUT.out], hn0.out, hn1.out, hf, B3.out⟩
                case measure => simp [intOf]; omega
        case neg =>
        obtain rfl : k = bs.length := by omega
        rw [List.take_length] at *
        have HBA := hid (show bs.all (boxF lots.length) = true by rw [hA.out, List.drop_length]; rfl)
        have hf := hid (show rightS ks lots bs = decide (unitsL bs ≤ 20000) by rw [HR.out, HNA.out, HLA.out, HBA.out]; simp [HK2.out, HL2.out, HB2.out])
        clear hA hlt hk9 h3
        as_aux_lemma =>
          go_wp2_with fail
          go_ret
          exact ⟨ret_bool (by rw [hf.out]), HB.out⟩
end Go.Proofs.YtfpehakllnkaeaaGreatDoor
namespace Go.Proofs.YtfpehakllnkaeaaGreatDoor
open Go.RowKit Go.IntWalk

set_option maxRecDepth 100000 in
set_option maxHeartbeats 2000000 in
theorem rweight_any (A B : Option Addr) (c d : Nat) (ks : List Kd) (lots : List Lt) (b : Bx) (w : World) (hk : ks.length ≤ maxLen) (hl : lots.length ≤ maxLen) (h : SlR w w.heap.size A ks) (h2 : SlR w w.heap.size B lots) (hb : boxF lots.length b = true) (hL : lots.all (lotF ks.length) = true) (hK : ks.all kindF = true) :
    Calls Tryz.prog 17 #[.slice A ks.length c, .slice B lots.length d, .agg #[.int .i64 b.1, .int .i64 b.2.1, .int .i64 b.2.2]] w fun e w' => e = .returned (.int .i64 (weightF ks lots b)) ∧ Below w.heap.size w w' := by
  unfold maxLen at hk hl
  simp only [boxF, btw, Bool.and_eq_true, decide_eq_true_eq] at hb
  have HW := hid (show weightF ks lots b = if b.1 < 0 then b.2.2 else b.2.2 + b.2.1 * (ks.getD (lotAt lots b).1.toNat (ByteArray.empty, 0)).2 from rfl)
  have HL := hid (@lot_cells w w.heap.size B lots h2 b)
  have hlt : 0 ≤ b.1 → 0 ≤ (lotAt lots b).1 ∧ (lotAt lots b).1 < ks.length := fun h0 => by
    have hk : b.1.toNat < lots.length := by omega
    have e : lotAt lots b = lots[b.1.toNat] := by simp [lotAt, hk]
    rw [e]
    have := List.all_eq_true.1 hL _ (List.getElem_mem hk)
    simp only [lotF, btw, Bool.and_eq_true, decide_eq_true_eq] at this
    omega
  generalize lotAt lots b = lt at *
  obtain ⟨lot, cnt, tare⟩ := b
  obtain ⟨lk, le, lf⟩ := lt
  simp only at *
  have B1 := hid (show Below w.heap.size w (w.alloc (Obj.cells #[.int .i64 lot, .int .i64 cnt, .int .i64 tare] 45)) by (repeat (first | exact Below.refl _ _ | assumption | refine below_drewN ?_ _ | refine Below.drew ?_ | refine Below.alloc ?_ (by (try simp); (try omega)) _ | refine Below.setCell ?_ (by (try simp); (try omega)) _)))
  by_cases h0 : 0 ≤ lot
  · obtain ⟨k, rfl⟩ := Int.eq_ofNat_of_zero_le h0
    obtain ⟨l1, l2⟩ := hlt h0
    obtain ⟨j, rfl⟩ := Int.eq_ofNat_of_zero_le l1
    have hkl : k < lots.length := by omega
    have hjk : j < ks.length := by omega
    obtain ⟨bl, off, rfl, hbl, c0, c1, c2, -, -⟩ := HL.out h0 (by omega)
    obtain ⟨bk, ofk, rfl, hbk, k0, k1, -, -⟩ := h.kd hjk
    simp only [Int.toNat_natCast] at c0 c1 c2
    have hkf := List.all_eq_true.1 hK _ (List.getElem_mem hjk)
    simp only [kindF, btw, Bool.and_eq_true, decide_eq_true_eq] at hkf
    have hg : (ks.getD j (ByteArray.empty, 0)).2 = ks[j].2 := by simp [hjk]
    have HW2 := hid (show weightF ks lots ((k : Int), cnt, tare) = tare + cnt * ks[j].2 by rw [HW.out]; simp only [Int.toNat_natCast]; rw [hg, if_neg (by omega)])
    clear HW HL hg hlt
    generalize ks[j].2 = wt at *
    generalize ks[j].1 = nm at *
    have hm : 0 ≤ cnt * wt ∧ cnt * wt ≤ 20000 * 10000 := ⟨Int.mul_nonneg (by omega) (by omega), Int.mul_le_mul (by omega) (by omega) (by omega) (by omega)⟩
    have hw1 : IntKind.i64.wrap (cnt * wt) = cnt * wt := IntWalk.i64_in _ (by omega)
    have hw2 : IntKind.i64.wrap (tare + cnt * wt) = tare + cnt * wt := IntWalk.i64_in _ (by omega)
    have hkI : ¬ (k : Int) < 0 := by omega
    have hklI : (k : Int) < lots.length := by omega
    have hjkI : (j : Int) < ks.length := by omega
    have hS := hid (fun (wq : World) (hb : Below w.heap.size w wq) => And.intro ((bcell hb bl _ hbl).trans c0) ((bcell hb bk _ hbk).trans k1))
    have Bd := hid (B1.out.drew)
    clear c0 c1 c2 k0 k1 h h2
    go_enter Tryz.func17, Tryz.ntmps17
    go_upto_region 3 with fail
    have X1 := hid (Blk.new w 45 #[.int .i64 (k : Int), .int .i64 cnt, .int .i64 tare])
    generalize w.alloc (Obj.cells #[.int .i64 (k : Int), .int .i64 cnt, .int .i64 tare] 45) = w1 at *
    have x0 := X1.out.cell 0; have x1 := X1.out.cell 1; have x2 := X1.out.cell 2
    simp at x0 x1 x2
    obtain ⟨c0, k1⟩ := hS.out _ B1.out
    refine wpIn_wide.1 (wpIn_region_S (n := 0) (fun wq => wq.cell? ⟨w.heap.size, 0, none⟩ = some (.int .i64 (k : Int)) ∧ wq.cell? ⟨w.heap.size, 1, none⟩ = some (.int .i64 cnt) ∧ wq.cell? ⟨w.heap.size, 2, none⟩ = some (.int .i64 tare) ∧ wq.cell? ⟨bl, off + k * 3, none⟩ = some (.int .i64 (j : Int)) ∧ wq.cell? ⟨bk, ofk + j * 2 + 1, none⟩ = some (.int .i64 wt)) [] (by kernel_rfl) ⟨x0, x1, x2, c0, k1⟩ (fun hHeld => ?_))
    refine wpAnyS_pure 0 (v := ?_) (fun _ => trivial) (by simp only [List.getElem?_toArray, List.getElem?_cons_succ, List.getElem?_cons_zero]; rfl) (by kernel_rfl) (fun _ _ _ _ _ h => h) ⟨rfl, (by intro c h; cases h), ?_⟩ hHeld ?_
    rotate_left
    focus (intro wS hSw; (try replace hSw := HSF.out wS hSw); (try dsimp only at hSw); go_simp; (try with_reducible rfl))
    (try simp only [Act.put, List.setIfInBounds_toArray, List.set_cons_zero, List.set_cons_succ])
    refine wpAnyS_take 1 (v := ?_) (fun _ => trivial) (by simp only [List.getElem?_toArray, List.getElem?_cons_succ, List.getElem?_cons_zero]; rfl) (by kernel_rfl) (fun _ _ _ _ _ h => h) ⟨rfl, (by intro c h; cases h), ?_⟩ hHeld ?_
    rotate_left
    focus (intro wS hSw; (try replace hSw := HSF.out wS hSw); (try dsimp only at hSw); go_simp; (try with_reducible rfl))
    (try simp only [Act.put, List.setIfInBounds_toArray, List.set_cons_zero, List.set_cons_succ])
    refine wpAnyS_pure 2 (v := ?_) (fun _ => trivial) (by simp only [List.getElem?_toArray, List.getElem?_cons_succ, List.getElem?_cons_zero]; rfl) (by kernel_rfl) (fun _ _ _ _ _ h => h) ⟨rfl, (by intro c h; cases h), ?_⟩ hHeld ?_
    rotate_left
    focus (intro wS hSw; (try replace hSw := HSF.out wS hSw); (try dsimp only at hSw); go_simp; (try with_reducible rfl))
    (try simp only [Act.put, List.setIfInBounds_toArray, List.set_cons_zero, List.set_cons_succ])
    refine wpAnyS_take 3 (v := ?_) (fun _ => trivial) (by simp only [List.getElem?_toArray, List.getElem?_cons_succ, List.getElem?_cons_zero]; rfl) (by kernel_rfl) (fun _ _ _ _ _ h => h) ⟨rfl, (by intro c h; cases h), ?_⟩ hHeld ?_
    rotate_left
    focus (intro wS hSw; (try replace hSw := HSF.out wS hSw); (try dsimp only at hSw); go_simp; (try with_reducible rfl))
    (try simp only [Act.put, List.setIfInBounds_toArray, List.set_cons_zero, List.set_cons_succ])
    refine wpAnyS_pure 4 (v := ?_) (fun _ => trivial) (by simp only [List.getElem?_toArray, List.getElem?_cons_succ, List.getElem?_cons_zero]; rfl) (by kernel_rfl) (fun _ _ _ _ _ h => h) ⟨rfl, (by intro c h; cases h), ?_⟩ hHeld ?_
    rotate_left
    focus (intro wS hSw; (try replace hSw := HSF.out wS hSw); (try dsimp only at hSw); go_simp; (try with_reducible rfl))
    (try simp only [Act.put, List.setIfInBounds_toArray, List.set_cons_zero, List.set_cons_succ])
    refine wpAnyS_pure 5 (v := ?_) (fun _ => trivial) (by simp only [List.getElem?_toArray, List.getElem?_cons_succ, List.getElem?_cons_zero]; rfl) (by kernel_rfl) (fun _ _ _ _ _ h => h) ⟨rfl, (by intro c h; cases h), ?_⟩ hHeld ?_
    rotate_left
    focus (intro wS hSw; (try replace hSw := HSF.out wS hSw); (try dsimp only at hSw); go_simp; (try with_reducible rfl))
    (try simp only [Act.put, List.setIfInBounds_toArray, List.set_cons_zero, List.set_cons_succ])
    refine wpAnyS_pure 6 (v := ?_) (fun _ => trivial) (by simp only [List.getElem?_toArray, List.getElem?_cons_succ, List.getElem?_cons_zero]; rfl) (by kernel_rfl) (fun _ _ _ _ _ h => h) ⟨rfl, (by intro c h; cases h), ?_⟩ hHeld ?_
    rotate_left
    focus (intro wS hSw; (try replace hSw := HSF.out wS hSw); (try dsimp only at hSw); go_simp; (try with_reducible rfl))
    (try simp only [Act.put, List.setIfInBounds_toArray, List.set_cons_zero, List.set_cons_succ])
    refine wpAnyS_take 7 (v := ?_) (fun _ => trivial) (by simp only [List.getElem?_toArray, List.getElem?_cons_succ, List.getElem?_cons_zero]; rfl) (by kernel_rfl) (fun _ _ _ _ _ h => h) ⟨rfl, (by intro c h; cases h), ?_⟩ hHeld ?_
    rotate_left
    focus (intro wS hSw; (try replace hSw := HSF.out wS hSw); (try dsimp only at hSw); go_simp; (try with_reducible rfl))
    (try simp only [Act.put, List.setIfInBounds_toArray, List.set_cons_zero, List.set_cons_succ])
    refine wpAnyS_pure 8 (v := ?_) (fun _ => trivial) (by simp only [List.getElem?_toArray, List.getElem?_cons_succ, List.getElem?_cons_zero]; rfl) (by kernel_rfl) (fun _ _ _ _ _ h => h) ⟨rfl, (by intro c h; cases h), ?_⟩ hHeld ?_
    rotate_left
    focus (intro wS hSw; (try replace hSw := HSF.out wS hSw); (try dsimp only at hSw); go_simp; (try with_reducible rfl))
    (try simp only [Act.put, List.setIfInBounds_toArray, List.set_cons_zero, List.set_cons_succ])
    refine wpAnyS_pure 9 (v := ?_) (fun _ => trivial) (by simp only [List.getElem?_toArray, List.getElem?_cons_succ, List.getElem?_cons_zero]; rfl) (by kernel_rfl) (fun _ _ _ _ _ h => h) ⟨rfl, (by intro c h; cases h), ?_⟩ hHeld ?_
    rotate_left
    focus (intro wS hSw; (try replace hSw := HSF.out wS hSw); (try dsimp only at hSw); go_simp; (try with_reducible rfl))
    (try simp only [Act.put, List.setIfInBounds_toArray, List.set_cons_zero, List.set_cons_succ])
    refine wpAnyS_take 10 (v := ?_) (fun _ => trivial) (by simp only [List.getElem?_toArray, List.getElem?_cons_succ, List.getElem?_cons_zero]; rfl) (by kernel_rfl) (fun _ _ _ _ _ h => h) ⟨rfl, (by intro c h; cases h), ?_⟩ hHeld ?_
    rotate_left
    focus (intro wS hSw; (try replace hSw := HSF.out wS hSw); (try dsimp only at hSw); go_simp; (try with_reducible rfl))
    (try simp only [Act.put, List.setIfInBounds_toArray, List.set_cons_zero, List.set_cons_succ])
    refine wpAnyS_pure 11 (v := ?_) (fun _ => trivial) (by simp only [List.getElem?_toArray, List.getElem?_cons_succ, List.getElem?_cons_zero]; rfl) (by kernel_rfl) (fun _ _ _ _ _ h => h) ⟨rfl, (by intro c h; cases h), ?_⟩ hHeld ?_
    rotate_left
    focus (intro wS hSw; (try replace hSw := HSF.out wS hSw); (try dsimp only at hSw); go_simp; (try with_reducible rfl))
    (try simp only [Act.put, List.setIfInBounds_toArray, List.set_cons_zero, List.set_cons_succ])
    refine wpAnyS_pure 12 (v := ?_) (fun _ => trivial) (by simp only [List.getElem?_toArray, List.getElem?_cons_succ, List.getElem?_cons_zero]; rfl) (by kernel_rfl) (fun _ _ _ _ _ h => h) ⟨rfl, (by intro c h; cases h), ?_⟩ hHeld ?_
    rotate_left
    focus (intro wS hSw; (try replace hSw := HSF.out wS hSw); (try dsimp only at hSw); go_simp; (try with_reducible rfl))
    (try simp only [Act.put, List.setIfInBounds_toArray, List.set_cons_zero, List.set_cons_succ])
    refine wpAnyS_take 13 (v := ?_) (fun _ => trivial) (by simp only [List.getElem?_toArray, List.getElem?_cons_succ, List.getElem?_cons_zero]; rfl) (by kernel_rfl) (fun _ _ _ _ _ h => h) ⟨rfl, (by intro c h; cases h), ?_⟩ hHeld ?_
    rotate_left
    focus (intro wS hSw; (try replace hSw := HSF.out wS hSw); (try dsimp only at hSw); go_simp; (try with_reducible rfl))
    (try simp only [Act.put, List.setIfInBounds_toArray, List.set_cons_zero, List.set_cons_succ])
    refine wpAnyS_pure 14 (v := ?_) (fun _ => trivial) (by simp only [List.getElem?_toArray, List.getElem?_cons_succ, List.getElem?_cons_zero]; rfl) (by kernel_rfl) (fun _ _ _ _ _ h => h) ⟨rfl, (by intro c h; cases h), ?_⟩ hHeld ?_
    rotate_left
    focus (intro wS hSw; (try replace hSw := HSF.out wS hSw); (try dsimp only at hSw); go_simp; (try with_reducible rfl))
    (try simp only [Act.put, List.setIfInBounds_toArray, List.set_cons_zero, List.set_cons_succ])
    refine wpAnyS_pure 15 (v := ?_) (fun _ => trivial) (by simp only [List.getElem?_toArray, List.getElem?_cons_succ, List.getElem?_cons_zero]; rfl) (by kernel_rfl) (fun _ _ _ _ _ h => h) ⟨rfl, (by intro c h; cases h), ?_⟩ hHeld ?_
    rotate_left
    focus (intro wS hSw; (try replace hSw := HSF.out wS hSw); (try dsimp only at hSw); go_simp; (try with_reducible rfl))
    (try simp only [Act.put, List.setIfInBounds_toArray, List.set_cons_zero, List.set_cons_succ])
    refine wpAnyS_pure 16 (v := ?_) (fun _ => trivial) (by simp only [List.getElem?_toArray, List.getElem?_cons_succ, List.getElem?_cons_zero]; rfl) (by kernel_rfl) (fun _ _ _ _ _ h => h) ⟨rfl, (by intro c h; cases h), ?_⟩ hHeld ?_
    rotate_left
    focus (intro wS hSw; (try replace hSw := HSF.out wS hSw); (try dsimp only at hSw); go_simp; (try with_reducible rfl))
    (try simp only [Act.put, List.setIfInBounds_toArray, List.set_cons_zero, List.set_cons_succ])
    refine wpAnyS_done (by kernel_rfl) ?_
    go_wp2_with fail
    go_ret
    exact ⟨ret_int HW2.out.symm, Bd.out⟩
  · have HW2 := hid (show weightF ks lots (lot, cnt, tare) = tare by rw [HW.out, if_pos (by omega)])
    have h0' : lot < 0 := by omega
    clear HW HL hlt h h2 hb
    go_enter Tryz.func17, Tryz.ntmps17
    go_wp2_with fail
    go_ret
    exact ⟨ret_int HW2.out.symm, B1.out⟩
set_option maxRecDepth 100000 in
set_option maxHeartbeats 2000000 in
theorem runits_any (A : Option Addr) (c : Nat) (bs : List Bx) (w : World) (hl : bs.length ≤ 100000) (h : SlR w w.heap.size A bs) (hc : CntOK bs) :
    Calls Tryz.prog 34 #[.slice A bs.length c] w fun e w' => e = .returned (.int .i64 (unitsL bs)) ∧ Below w.heap.size w w' := by
  go_enter Tryz.func34, Tryz.ntmps34
  go_wp2_with fail
  go_loopw [3, 4] (fun sv i wr => ∃ k : Nat, k ≤ bs.length ∧ i = .int .i64 k ∧ sv = .int .i64 (unitsL (bs.take k)) ∧ Below w.heap.size w wr) (fun _ i _ => bs.length - (intOf i).toNat)
  case atStart => exact ⟨0, by omega, rfl, rfl, Below.refl _ _⟩
  case round =>
    obtain ⟨k, hk, rfl, rfl, hB⟩ := hrel
    have HB := hid hB
    have hbd := hc.units k
    by_cases hlt : k < bs.length
    · have hlt' : (k : Int) < bs.length := by omega
      have hcb := hc _ (List.getElem_mem hlt)
      obtain ⟨b, off, rfl, hb, c0, c1, c2, -⟩ := h.i3 hlt
      replace c1 := (bcell hB b _ hb).trans c1
      have hz : b < wr.heap.size := by have := hB.size; omega
      have HT := hid (unitsL_take hlt)
      clear hB c0 c2
      generalize bs[k] = x at *
      obtain ⟨x0, x1, x2⟩ := x
      simp only at *
      generalize unitsL (bs.take k) = s at *
      have hwr : IntKind.i64.wrap (s + x1) = s + x1 := IntWalk.i64_in _ (by omega)
      as_aux_lemma =>
        go_wp2_with fail
        go_roundw
        case rel => exact ⟨k + 1, by omega, by go_num, by rw [HT.out], HB.out⟩
        case measure => simp [intOf]; omega
    · obtain rfl : k = bs.length := by omega
      rw [List.take_length]
      clear hB
      go_wp2_with fail
      go_ret
      exact ⟨rfl, HB.out⟩
set_option maxRecDepth 100000 in
set_option maxHeartbeats 2000000 in
theorem rsupply_any (A B : Option Addr) (c d : Nat) (lots : List Lt) (bs : List Bx) (x : Wt) (w : World) (hl : lots.length ≤ maxLen) (hb : bs.length ≤ 100000) (h : SlR w w.heap.size A lots) (h2 : SlR w w.heap.size B bs) (hc : CntOK bs) :
    Calls Tryz.prog 19 #[.slice A lots.length c, .slice B bs.length d, .agg #[.int .i64 x.1, .int .i64 x.2.1, .int .i64 x.2.2]] w fun e w' => e = .returned (.int .i64 (supplyL lots bs x)) ∧ Below w.heap.size w w' := by
  obtain ⟨wk, wc, wu⟩ := x
  simp only at *
  have B1 := hid (show Below w.heap.size w (w.alloc (Obj.cells #[.int .i64 wk, .int .i64 wc, .int .i64 wu] 42)) by (repeat (first | exact Below.refl _ _ | assumption | refine below_drewN ?_ _ | refine Below.drew ?_ | refine Below.alloc ?_ (by (try simp); (try omega)) _ | refine Below.setCell ?_ (by (try simp); (try omega)) _)))
  have Y1 := hid (Blk.new w 42 #[.int .i64 wk, .int .i64 wc, .int .i64 wu])
  have H := hid h; have HL := hid hl
  clear h hl
  go_enter Tryz.func19, Tryz.ntmps19
  go_wp2_with fail
  go_loopw [7, 8] (fun sv i wr => ∃ k : Nat, k ≤ bs.length ∧ i = .int .i64 k ∧ sv = .int .i64 (supplyL lots (bs.take k) (wk, wc, wu)) ∧ Below w.heap.size w wr ∧ Blk wr w.heap.size 42 #[.int .i64 wk, .int .i64 wc, .int .i64 wu]) (fun _ i _ => bs.length - (intOf i).toNat)
  case atStart => exact ⟨0, by omega, rfl, rfl, B1.out, Y1.out⟩
  case round =>
    obtain ⟨k, hk, rfl, rfl, hB, hY⟩ := hrel
    have HB := hid hB
    have HY := hid hY
    have hbd := hc.supply lots (wk, wc, wu) k
    by_cases hlt : k < bs.length
    · have hlt' : (k : Int) < bs.length := by omega
      have hcb := hc _ (List.getElem_mem hlt)
      obtain ⟨b, off, rfl, hbz, c0, c1, c2, -⟩ := h2.i3 hlt
      replace c0 := (bcell hB b _ hbz).trans c0
      replace c1 := (bcell hB b _ hbz).trans c1
      replace c2 := (bcell hB b _ hbz).trans c2
      have hz : b < wr.heap.size := by have := hB.size; omega
      have HT := hid (supplyL_take (lots := lots) (w := (wk, wc, wu)) hlt)
      have hsz := hB.size
      clear hB hY
      generalize bs[k] = x at *
      obtain ⟨x0, x1, x2⟩ := x
      simp only at *
      generalize supplyL lots (bs.take k) (wk, wc, wu) = s at *
      have hwr : IntKind.i64.wrap (s + x1) = s + x1 := IntWalk.i64_in _ (by omega)
      have y0 := HY.out.cell 0; have y1 := HY.out.cell 1; have y2 := HY.out.cell 2; have yz := HY.out.lt
      simp at y0 y1 y2
      have HC := hid (fun (W' : World) (hW : Below wr.heap.size wr W') => has_any A c lots (x0, x1, x2) (wk, wc, wu) W' HL.out ((H.out.below (HB.out.trans (hW.mono hsz))).more (HB.out.trans (hW.mono hsz)).size))
      have HSF := hid (fun (wq : World) (hq : Below wr.heap.size wr wq) => And.intro ((bcell hq _ _ hz).trans c0) (And.intro ((bcell hq _ _ hz).trans c1) (And.intro ((bcell hq _ _ hz).trans c2) (And.intro ((bcell hq _ _ yz).trans y0) (And.intro ((bcell hq _ _ yz).trans y1) ((bcell hq _ _ yz).trans y2))))))
      have BD := hid ((Below.refl wr.heap.size wr).drew)
      clear c0 c1 c2 y0 y1 y2
      go_upto_region 5 with fail
      refine wpIn_wide.1 (wpIn_region_S (n := 0) (fun wq => Below wr.heap.size wr wq) [6] (by kernel_rfl) BD.out (fun hHeld => ?_))
      generalize wr.drew = wd at *
      refine wpAnyS_pure 0 (v := ?_) (fun _ => trivial) (by simp only [List.getElem?_toArray, List.getElem?_cons_succ, List.getElem?_cons_zero]; rfl) (by kernel_rfl) (fun _ _ _ _ _ h => h) ⟨rfl, (by intro c h; cases h), ?_⟩ hHeld ?_
      rotate_left
      focus (intro wS hSw; (try replace hSw := HSF.out wS hSw); (try dsimp only at hSw); go_simp; (try with_reducible rfl))
      (try simp only [Act.put, List.setIfInBounds_toArray, List.set_cons_zero, List.set_cons_succ])
      refine wpAnyS_pure 1 (v := ?_) (fun _ => trivial) (by simp only [List.getElem?_toArray, List.getElem?_cons_succ, List.getElem?_cons_zero]; rfl) (by kernel_rfl) (fun _ _ _ _ _ h => h) ⟨rfl, (by intro c h; cases h), ?_⟩ hHeld ?_
      rotate_left
      focus (intro wS hSw; (try replace hSw := HSF.out wS hSw); (try dsimp only at hSw); go_simp; (try with_reducible rfl))
      (try simp only [Act.put, List.setIfInBounds_toArray, List.set_cons_zero, List.set_cons_succ])
      refine wpAnyS_pure 2 (v := ?_) (fun _ => trivial) (by simp only [List.getElem?_toArray, List.getElem?_cons_succ, List.getElem?_cons_zero]; rfl) (by kernel_rfl) (fun _ _ _ _ _ h => h) ⟨rfl, (by intro c h; cases h), ?_⟩ hHeld ?_
      rotate_left
      focus (intro wS hSw; (try replace hSw := HSF.out wS hSw); (try dsimp only at hSw); go_simp; (try with_reducible rfl))
      (try simp only [Act.put, List.setIfInBounds_toArray, List.set_cons_zero, List.set_cons_succ])
      refine wpAnyS_pure 3 (v := ?_) (fun _ => trivial) (by simp only [List.getElem?_toArray, List.getElem?_cons_succ, List.getElem?_cons_zero]; rfl) (by kernel_rfl) (fun _ _ _ _ _ h => h) ⟨rfl, (by intro c h; cases h), ?_⟩ hHeld ?_
      rotate_left
      focus (intro wS hSw; (try replace hSw := HSF.out wS hSw); (try dsimp only at hSw); go_simp; (try with_reducible rfl))
      (try simp only [Act.put, List.setIfInBounds_toArray, List.set_cons_zero, List.set_cons_succ])
      refine wpAnyS_take 4 (v := ?_) (fun _ => trivial) (by simp only [List.getElem?_toArray, List.getElem?_cons_succ, List.getElem?_cons_zero]; rfl) (by kernel_rfl) (fun _ _ _ _ _ h => h) ⟨rfl, (by intro c h; cases h), ?_⟩ hHeld ?_
      rotate_left
      focus (intro wS hSw; (try replace hSw := HSF.out wS hSw); (try dsimp only at hSw); go_simp; (try with_reducible rfl))
      (try simp only [Act.put, List.setIfInBounds_toArray, List.set_cons_zero, List.set_cons_succ])
      refine wpAnyS_take 5 (v := ?_) (fun _ => trivial) (by simp only [List.getElem?_toArray, List.getElem?_cons_succ, List.getElem?_cons_zero]; rfl) (by kernel_rfl) (fun _ _ _ _ _ h => h) ⟨rfl, (by intro c h; cases h), ?_⟩ hHeld ?_
      rotate_left
      focus (intro wS hSw; (try replace hSw := HSF.out wS hSw); (try dsimp only at hSw); go_simp; (try with_reducible rfl))
      (try simp only [Act.put, List.setIfInBounds_toArray, List.set_cons_zero, List.set_cons_succ])
      refine wpAnyS_ready [6] (by kernel_rfl) (by simp) (AllReadyS.consL (by simp only [List.getElem?_toArray, List.getElem?_cons_succ, List.getElem?_cons_zero]; rfl) rfl (by kernel_rfl) (fun K hK => ?_) AllReadyS.nil)
      refine callS (by intro c h; cases h) (by go_simp; try with_reducible rfl) (HC.out _ BD.out) ?_
      intro w5 hB5
      have D5 := hid (BD.out.trans (hB5.mono BD.out.size))
      have B5 := hid (HB.out.trans (D5.out.mono hsz))
      have Y5 := hid (HY.out.below D5.out HY.out.lt)
      refine hK.out _ _ ?_
      (try simp only [Act.put, List.setIfInBounds_toArray, List.set_cons_zero, List.set_cons_succ])
      refine wpAnyS_done (by kernel_rfl) ?_
      obtain ⟨c0, c1, c2, -⟩ := HSF.out _ D5.out
      have hz5 : b < w5.heap.size := by have := D5.out.size; omega
      clear hK K hHeld hB5 D5 BD HC HSF HY
      cases hq : hasF lots (wk, wc, wu) (x0, x1, x2) with
      | false =>
        rw [hq] at HT
        as_aux_lemma =>
          go_wp2_with fail
          go_roundw
          case rel => exact ⟨k + 1, by omega, by go_num, by rw [HT.out]; simp, B5.out, Y5.out⟩
          case measure => simp [intOf]; omega
      | true =>
        rw [hq] at HT
        as_aux_lemma =>
          go_wp2_with fail
          go_roundw
          case rel => exact ⟨k + 1, by omega, by go_num, by rw [HT.out]; simp, B5.out, Y5.out⟩
          case measure => simp [intOf]; omega
    · obtain rfl : k = bs.length := by omega
      rw [List.take_length]
      clear hB hY
      go_wp2_with fail
      go_ret
      exact ⟨rfl, HB.out⟩
set_option maxRecDepth 100000 in
set_option maxHeartbeats 1000000 in
theorem rin_any (A : Option Addr) (c : Nat) (l : List Int) (n : Int) (w : World) (hl : l.length ≤ maxLen) (h : SlR w w.heap.size A l) :
    Calls Tryz.prog 84 #[.slice A l.length c, .int .i64 n] w fun e w' => e = .returned (.bool (l.any (fun x => decide (x = n)))) ∧ Below w.heap.size w w' := by
  unfold maxLen at hl
  go_enter Tryz.func84, Tryz.ntmps84
  go_wp2_with fail
  go_loopw [5] (fun i wr => ∃ k : Nat, k ≤ l.length ∧ i = .int .i64 k ∧ Hid ((l.take k).any (fun x => decide (x = n)) = false) ∧ Below w.heap.size w wr) (fun i _ => l.length - (intOf i).toNat)
  case atStart => exact ⟨0, by omega, rfl, by simp [Hid], Below.refl _ _⟩
  case round =>
    obtain ⟨k, hk, rfl, hA, hB⟩ := hrel
    have HB := hid hB
    by_cases hlt : k < l.length
    · have hltI : (k : Int) < l.length := by omega
      obtain ⟨b, off, rfl, hb, c0, _⟩ := h.int hlt
      replace c0 := (bcell hB b _ hb).trans c0
      have hz : b < wr.heap.size := by have := hB.size; omega
      have HS := hid (show (l.take (k + 1)).any (fun x => decide (x = n)) = ((l.take k).any (fun x => decide (x = n)) || decide (l[k] = n)) by
        rw [List.take_add_one, List.getElem?_eq_getElem hlt, List.any_append]; simp)
      have HY := hid (show l[k] = n → l.any (fun x => decide (x = n)) = true from fun e => List.any_eq_true.2 ⟨_, List.getElem_mem hlt, by simp [e]⟩)
      clear hB
      generalize l[k] = x at *
      by_cases hx : x = n
      · have hf := hid (HY.out hx)
        subst hx
        as_aux_lemma =>
          go_wp2_with fail
          go_ret
          exact ⟨ret_bool hf.out.symm, HB.out⟩
      · have hf := hid (show (l.take (k + 1)).any (fun x => decide (x = n)) = false by rw [HS.out, hA.out]; simp [hx])
        have hx2 : (x == n) = false := by simp [hx]
        as_aux_lemma =>
          go_wp2_with fail
          go_roundw
          case rel => exact ⟨k + 1, by omega, by go_num, hf, HB.out⟩
          case measure => simp [intOf]; omega
    · obtain rfl : k = l.length := by omega
      have hf := hid (show l.any (fun x => decide (x = n)) = false by have := hA.out; rwa [List.take_length] at this)
      clear hB hA
      go_wp2_with fail
      go_ret
      exact ⟨ret_bool hf.out.symm, HB.out⟩
end Go.Proofs.YtfpehakllnkaeaaGreatDoor
namespace Go.Proofs.YtfpehakllnkaeaaGreatDoor
open Go.RowKit Go.IntWalk

theorem lot_cells_at {w : World} {B : Nat} {A : Option Addr} {lots : List Lt} (h : SlR w B A lots) {x : Wt} {b : Bx} (hh : hasF lots x b = true) : ∃ (bl off k : Nat), A = some ⟨bl, off, none⟩ ∧ bl < B ∧ b.1 = (k : Int) ∧ k < lots.length ∧ w.cell? ⟨bl, off + k * 3 + 1, none⟩ = some (.int .i64 (lotAt lots b).2.1) := by
  unfold hasF at hh
  simp only [Bool.and_eq_true, decide_eq_true_eq] at hh
  obtain ⟨k, hk⟩ := Int.eq_ofNat_of_zero_le hh.1.1
  have hkl : k < lots.length := by omega
  obtain ⟨bl, off, hA, hbl, c0, c1, c2, -, -⟩ := h.lt hkl
  have e : lotAt lots b = lots[k] := by unfold lotAt; rw [hk]; simp [hkl]
  exact ⟨bl, off, k, hA, hbl, hk, hkl, by rw [e]; exact c1⟩
set_option maxRecDepth 100000 in
set_option maxHeartbeats 8000000 in
theorem rfirst_any (A B C : Option Addr) (c d e0 : Nat) (lots : List Lt) (bs : List Bx) (x : Wt) (but : List Int) (w : World) (hl : lots.length ≤ maxLen) (hb : bs.length ≤ 100000) (hu : but.length ≤ maxLen) (h1 : SlR w w.heap.size A lots) (h2 : SlR w w.heap.size B bs) (h3 : SlR w w.heap.size C but) :
    Calls Tryz.prog 56 #[.slice A lots.length c, .slice B bs.length d, .agg #[.int .i64 x.1, .int .i64 x.2.1, .int .i64 x.2.2], .slice C but.length e0] w fun e w' => ∃ r : Int, e = .returned (.int .i64 r) ∧ FirstN lots bs x but bs.length r ∧ Below w.heap.size w w' := by
  obtain ⟨wk, wc, wu⟩ := x
  simp only at *
  have B1 := hid (show Below w.heap.size w (w.alloc (Obj.cells #[.int .i64 wk, .int .i64 wc, .int .i64 wu] 42)) by (repeat (first | exact Below.refl _ _ | assumption | refine below_drewN ?_ _ | refine Below.drew ?_ | refine Below.alloc ?_ (by (try simp); (try omega)) _ | refine Below.setCell ?_ (by (try simp); (try omega)) _)))
  have Y1 := hid (Blk.new w 42 #[.int .i64 wk, .int .i64 wc, .int .i64 wu])
  have H := hid h1; have HL := hid hl; have HU := hid hu; have H3 := hid h3
  have hl63 : lots.length ≤ 9223372036854775807 := by unfold maxLen at hl; omega
  clear h1 hl hu h3
  go_enter Tryz.func56, Tryz.ntmps56
  go_wp2_with fail
  go_loopw [9, 10] (fun rv i wr => ∃ (k : Nat) (r : Int), k ≤ bs.length ∧ i = .int .i64 k ∧ rv = .int .i64 r ∧ Hid (FirstN lots bs (wk, wc, wu) but k r) ∧ Below w.heap.size w wr ∧ Blk wr w.heap.size 42 #[.int .i64 wk, .int .i64 wc, .int .i64 wu]) (fun _ i _ => bs.length - (intOf i).toNat)
  case atStart => exact ⟨0, -1, by omega, rfl, rfl, .inl ⟨rfl, fun i hi => by omega⟩, B1.out, Y1.out⟩
  case round =>
    obtain ⟨k, r, hk, rfl, rfl, hF, hB, hY⟩ := hrel
    have HB := hid hB
    have HY := hid hY
    clear Y1 B1
    by_cases hlt : k < bs.length
    case neg =>
      obtain rfl : k = bs.length := by omega
      clear hB hY
      as_aux_lemma =>
        go_wp2_with fail
        go_ret
        exact ⟨r, rfl, hF.out, HB.out⟩
    case pos =>
      have hlt' : (k : Int) < bs.length := by omega
      obtain ⟨b, off, rfl, hbz, c0, c1, c2, -⟩ := h2.i3 hlt
      have HBX := hid (show ∀ j, j < bs.length → ∃ (hj : j < bs.length), w.cell? ⟨b, off + j * 3, none⟩ = some (.int .i64 bs[j].1) from fun j hj => by
        obtain ⟨b', off', e1, _, g0, _⟩ := h2.i3 hj
        injection e1 with e1
        injection e1 with e2 e3 _
        subst e2 e3
        exact ⟨hj, g0⟩)
      replace c0 := (bcell hB b _ hbz).trans c0
      replace c1 := (bcell hB b _ hbz).trans c1
      replace c2 := (bcell hB b _ hbz).trans c2
      have hz : b < wr.heap.size := by have := hB.size; omega
      have hsz := hB.size
      have HG := hid (show bs.getD k (0, 0, 0) = bs[k] by simp [hlt])
      clear hB hY
      have HXK := hid (rfl : bs[k] = bs[k])
      generalize hxx : bs[k] = xb at *
      have HXX := hid hxx
      clear hxx HXK
      obtain ⟨x0, x1, x2⟩ := xb
      simp only at c0 c1 c2
      have HCN := hid (show cntAt bs k = x1 by unfold cntAt; rw [HG.out])
      have y0 := HY.out.cell 0; have y1 := HY.out.cell 1; have y2 := HY.out.cell 2; have yz := HY.out.lt
      simp at y0 y1 y2
      have HC := hid (fun (W' : World) (hW : Below wr.heap.size wr W') => has_any A c lots (x0, x1, x2) (wk, wc, wu) W' HL.out ((H.out.below (HB.out.trans (hW.mono hsz))).more (HB.out.trans (hW.mono hsz)).size))
      have HI := hid (fun (W' : World) (hW : Below wr.heap.size wr W') => rin_any C e0 but (k : Int) W' HU.out ((H3.out.below (HB.out.trans (hW.mono hsz))).more (HB.out.trans (hW.mono hsz)).size))
      have HSF := hid (fun (wq : World) (hq : Below wr.heap.size wr wq) => And.intro ((bcell hq _ _ hz).trans c0) (And.intro ((bcell hq _ _ hz).trans c1) (And.intro ((bcell hq _ _ hz).trans c2) (And.intro ((bcell hq _ _ yz).trans y0) (And.intro ((bcell hq _ _ yz).trans y1) ((bcell hq _ _ yz).trans y2))))))
      have BD := hid ((Below.refl wr.heap.size wr).drew)
      clear c0 c1 c2 y0 y1 y2
      cases hq : hasF lots (wk, wc, wu) (x0, x1, x2) with
      | false =>
        have hnc := hid (show ¬ cand lots bs (wk, wc, wu) but k from fun h => by have h5 := h.2.2.1; rw [HG.out, hq] at h5; cases h5)
        rw [hq] at HC
        as_aux_lemma =>
          go_upto_region 5 with fail
          refine wpIn_wide.1 (wpIn_region_S (n := 0) (fun wq => Below wr.heap.size wr wq) [] (by kernel_rfl) BD.out (fun hHeld => ?_))
          generalize wr.drew = wd at *
          refine wpAnyG_pure 0 (v := ?_) (fun _ => trivial) (by simp only [List.getElem?_toArray, List.getElem?_cons_succ, List.getElem?_cons_zero]; rfl) (by kernel_rfl) (fun _ _ _ _ _ h => h) ⟨(by rfl), (by intro c h; cases h), ?_⟩ hHeld ?_
          rotate_left
          focus (intro wS hSw; (try replace hSw := HSF.out wS hSw); (try dsimp only at hSw); go_simp; (try with_reducible rfl))
          (try simp only [Act.put, List.setIfInBounds_toArray, List.set_cons_zero, List.set_cons_succ])
          refine wpAnyG_pure 1 (v := ?_) (fun _ => trivial) (by simp only [List.getElem?_toArray, List.getElem?_cons_succ, List.getElem?_cons_zero]; rfl) (by kernel_rfl) (fun _ _ _ _ _ h => h) ⟨(by rfl), (by intro c h; cases h), ?_⟩ hHeld ?_
          rotate_left
          focus (intro wS hSw; (try replace hSw := HSF.out wS hSw); (try dsimp only at hSw); go_simp; (try with_reducible rfl))
          (try simp only [Act.put, List.setIfInBounds_toArray, List.set_cons_zero, List.set_cons_succ])
          refine wpAnyG_pure 2 (v := ?_) (fun _ => trivial) (by simp only [List.getElem?_toArray, List.getElem?_cons_succ, List.getElem?_cons_zero]; rfl) (by kernel_rfl) (fun _ _ _ _ _ h => h) ⟨(by rfl), (by intro c h; cases h), ?_⟩ hHeld ?_
          rotate_left
          focus (intro wS hSw; (try replace hSw := HSF.out wS hSw); (try dsimp only at hSw); go_simp; (try with_reducible rfl))
          (try simp only [Act.put, List.setIfInBounds_toArray, List.set_cons_zero, List.set_cons_succ])
          refine wpAnyG_pure 3 (v := ?_) (fun _ => trivial) (by simp only [List.getElem?_toArray, List.getElem?_cons_succ, List.getElem?_cons_zero]; rfl) (by kernel_rfl) (fun _ _ _ _ _ h => h) ⟨(by rfl), (by intro c h; cases h), ?_⟩ hHeld ?_
          rotate_left
          focus (intro wS hSw; (try replace hSw := HSF.out wS hSw); (try dsimp only at hSw); go_simp; (try with_reducible rfl))
          (try simp only [Act.put, List.setIfInBounds_toArray, List.set_cons_zero, List.set_cons_succ])
          refine wpAnyG_take 4 (v := ?_) (fun _ => trivial) (by simp only [List.getElem?_toArray, List.getElem?_cons_succ, List.getElem?_cons_zero]; rfl) (by kernel_rfl) (fun _ _ _ _ _ h => h) ⟨(by rfl), (by intro c h; cases h), ?_⟩ hHeld ?_
          rotate_left
          focus (intro wS hSw; (try replace hSw := HSF.out wS hSw); (try dsimp only at hSw); go_simp; (try with_reducible rfl))
          (try simp only [Act.put, List.setIfInBounds_toArray, List.set_cons_zero, List.set_cons_succ])
          refine wpAnyG_take 5 (v := ?_) (fun _ => trivial) (by simp only [List.getElem?_toArray, List.getElem?_cons_succ, List.getElem?_cons_zero]; rfl) (by kernel_rfl) (fun _ _ _ _ _ h => h) ⟨(by rfl), (by intro c h; cases h), ?_⟩ hHeld ?_
          rotate_left
          focus (intro wS hSw; (try replace hSw := HSF.out wS hSw); (try dsimp only at hSw); go_simp; (try with_reducible rfl))
          (try simp only [Act.put, List.setIfInBounds_toArray, List.set_cons_zero, List.set_cons_succ])
          refine wpAnyS_ready [6] (by kernel_rfl) (by simp) (AllReadyS.consG (by simp only [List.getElem?_toArray, List.getElem?_cons_succ, List.getElem?_cons_zero]; rfl) (by rfl) (fun K hK => ?_) AllReadyS.nil)
          refine callS (by intro c h; cases h) (by go_simp; try with_reducible rfl) (HC.out _ BD.out) ?_
          intro w6 hBq
          have B6 := hid (BD.out.trans (hBq.mono BD.out.size))
          refine hK.out _ _ B6.out ?_
          (try simp only [Act.put, List.setIfInBounds_toArray, List.set_cons_zero, List.set_cons_succ])
          clear hK K hBq
          clear hHeld
          have hHeld := B6.out
          refine wpAnyG_pure 7 (v := ?_) (fun _ => trivial) (by simp only [List.getElem?_toArray, List.getElem?_cons_succ, List.getElem?_cons_zero]; rfl) (by kernel_rfl) (fun _ _ _ _ _ h => h) ⟨(by rfl), (by intro c h; cases h), ?_⟩ hHeld ?_
          rotate_left
          focus (intro wS hSw; (try replace hSw := HSF.out wS hSw); (try dsimp only at hSw); go_simp; (try with_reducible rfl))
          (try simp only [Act.put, List.setIfInBounds_toArray, List.set_cons_zero, List.set_cons_succ])
          refine wpAnyG_pure 8 (v := ?_) (fun _ => trivial) (by simp only [List.getElem?_toArray, List.getElem?_cons_succ, List.getElem?_cons_zero]; rfl) (by kernel_rfl) (fun _ _ _ _ _ h => h) ⟨(by rfl), (by intro c h; cases h), ?_⟩ hHeld ?_
          rotate_left
          focus (intro wS hSw; (try replace hSw := HSF.out wS hSw); (try dsimp only at hSw); go_simp; (try with_reducible rfl))
          (try simp only [Act.put, List.setIfInBounds_toArray, List.set_cons_zero, List.set_cons_succ])
          refine wpAnyG_skip 9 (fun _ => trivial) (by simp only [List.getElem?_toArray, List.getElem?_cons_succ, List.getElem?_cons_zero]; rfl) (by kernel_rfl) (fun _ _ _ _ _ h => h) (by rfl) hHeld ?_
          (try simp only [Act.put, List.setIfInBounds_toArray, List.set_cons_zero, List.set_cons_succ])
          refine wpAnyG_skip 10 (fun _ => trivial) (by simp only [List.getElem?_toArray, List.getElem?_cons_succ, List.getElem?_cons_zero]; rfl) (by kernel_rfl) (fun _ _ _ _ _ h => h) (by rfl) hHeld ?_
          (try simp only [Act.put, List.setIfInBounds_toArray, List.set_cons_zero, List.set_cons_succ])
          refine wpAnyG_skip 11 (fun _ => trivial) (by simp only [List.getElem?_toArray, List.getElem?_cons_succ, List.getElem?_cons_zero]; rfl) (by kernel_rfl) (fun _ _ _ _ _ h => h) (by rfl) hHeld ?_
          (try simp only [Act.put, List.setIfInBounds_toArray, List.set_cons_zero, List.set_cons_succ])
          refine wpAnyG_skip 12 (fun _ => trivial) (by simp only [List.getElem?_toArray, List.getElem?_cons_succ, List.getElem?_cons_zero]; rfl) (by kernel_rfl) (fun _ _ _ _ _ h => h) (by rfl) hHeld ?_
          (try simp only [Act.put, List.setIfInBounds_toArray, List.set_cons_zero, List.set_cons_succ])
          refine wpAnyG_skip 13 (fun _ => trivial) (by simp only [List.getElem?_toArray, List.getElem?_cons_succ, List.getElem?_cons_zero]; rfl) (by kernel_rfl) (fun _ _ _ _ _ h => h) (by rfl) hHeld ?_
          (try simp only [Act.put, List.setIfInBounds_toArray, List.set_cons_zero, List.set_cons_succ])
          refine wpAnyG_skip 14 (fun _ => trivial) (by simp only [List.getElem?_toArray, List.getElem?_cons_succ, List.getElem?_cons_zero]; rfl) (by kernel_rfl) (fun _ _ _ _ _ h => h) (by rfl) hHeld ?_
          (try simp only [Act.put, List.setIfInBounds_toArray, List.set_cons_zero, List.set_cons_succ])
          refine wpAnyG_pure 15 (v := ?_) (fun _ => trivial) (by simp only [List.getElem?_toArray, List.getElem?_cons_succ, List.getElem?_cons_zero]; rfl) (by kernel_rfl) (fun _ _ _ _ _ h => h) ⟨(by rfl), (by intro c h; cases h), ?_⟩ hHeld ?_
          rotate_left
          focus (intro wS hSw; (try replace hSw := HSF.out wS hSw); (try dsimp only at hSw); go_simp; (try with_reducible rfl))
          (try simp only [Act.put, List.setIfInBounds_toArray, List.set_cons_zero, List.set_cons_succ])
          refine wpAnyG_pure 16 (v := ?_) (fun _ => trivial) (by simp only [List.getElem?_toArray, List.getElem?_cons_succ, List.getElem?_cons_zero]; rfl) (by kernel_rfl) (fun _ _ _ _ _ h => h) ⟨(by rfl), (by intro c h; cases h), ?_⟩ hHeld ?_
          rotate_left
          focus (intro wS hSw; (try replace hSw := HSF.out wS hSw); (try dsimp only at hSw); go_simp; (try with_reducible rfl))
          (try simp only [Act.put, List.setIfInBounds_toArray, List.set_cons_zero, List.set_cons_succ])
          refine wpAnyG_skip 17 (fun _ => trivial) (by simp only [List.getElem?_toArray, List.getElem?_cons_succ, List.getElem?_cons_zero]; rfl) (by kernel_rfl) (fun _ _ _ _ _ h => h) (by rfl) hHeld ?_
          (try simp only [Act.put, List.setIfInBounds_toArray, List.set_cons_zero, List.set_cons_succ])
          refine wpAnyG_skip 18 (fun _ => trivial) (by simp only [List.getElem?_toArray, List.getElem?_cons_succ, List.getElem?_cons_zero]; rfl) (by kernel_rfl) (fun _ _ _ _ _ h => h) (by rfl) hHeld ?_
          (try simp only [Act.put, List.setIfInBounds_toArray, List.set_cons_zero, List.set_cons_succ])
          refine wpAnyG_skip 19 (fun _ => trivial) (by simp only [List.getElem?_toArray, List.getElem?_cons_succ, List.getElem?_cons_zero]; rfl) (by kernel_rfl) (fun _ _ _ _ _ h => h) (by rfl) hHeld ?_
          (try simp only [Act.put, List.setIfInBounds_toArray, List.set_cons_zero, List.set_cons_succ])
          refine wpAnyG_pure 20 (v := ?_) (fun _ => trivial) (by simp only [List.getElem?_toArray, List.getElem?_cons_succ, List.getElem?_cons_zero]; rfl) (by kernel_rfl) (fun _ _ _ _ _ h => h) ⟨(by rfl), (by intro c h; cases h), ?_⟩ hHeld ?_
          rotate_left
          focus (intro wS hSw; (try replace hSw := HSF.out wS hSw); (try dsimp only at hSw); go_simp; (try with_reducible rfl))
          (try simp only [Act.put, List.setIfInBounds_toArray, List.set_cons_zero, List.set_cons_succ])
          refine wpAnyS_done (by kernel_rfl) ?_
          clear hHeld
          go_wp2_with fail
          go_roundw
          case rel => exact ⟨k + 1, r, by omega, by go_num, rfl, hF.out.skip hnc.out, HB.out.trans (B6.out.mono hsz), HY.out.below B6.out HY.out.lt⟩
          case measure => simp [intOf]; omega
      | true =>
        rw [hq] at HC
        have HQ := hid hq
        clear hq
        by_cases hx1 : x1 = 0
        case pos =>
          have hnc := hid (show ¬ cand lots bs (wk, wc, wu) but k from fun h => h.2.1 (by rw [HCN.out]; exact hx1))
          subst hx1
          as_aux_lemma =>
            go_upto_region 5 with fail
            refine wpIn_wide.1 (wpIn_region_S (n := 0) (fun wq => Below wr.heap.size wr wq) [] (by kernel_rfl) BD.out (fun hHeld => ?_))
            generalize wr.drew = wd at *
            refine wpAnyG_pure 0 (v := ?_) (fun _ => trivial) (by simp only [List.getElem?_toArray, List.getElem?_cons_succ, List.getElem?_cons_zero]; rfl) (by kernel_rfl) (fun _ _ _ _ _ h => h) ⟨(by rfl), (by intro c h; cases h), ?_⟩ hHeld ?_
            rotate_left
            focus (intro wS hSw; (try replace hSw := HSF.out wS hSw); (try dsimp only at hSw); go_simp; (try with_reducible rfl))
            (try simp only [Act.put, List.setIfInBounds_toArray, List.set_cons_zero, List.set_cons_succ])
            refine wpAnyG_pure 1 (v := ?_) (fun _ => trivial) (by simp only [List.getElem?_toArray, List.getElem?_cons_succ, List.getElem?_cons_zero]; rfl) (by kernel_rfl) (fun _ _ _ _ _ h => h) ⟨(by rfl), (by intro c h; cases h), ?_⟩ hHeld ?_
            rotate_left
            focus (intro wS hSw; (try replace hSw := HSF.out wS hSw); (try dsimp only at hSw); go_simp; (try with_reducible rfl))
            (try simp only [Act.put, List.setIfInBounds_toArray, List.set_cons_zero, List.set_cons_succ])
            refine wpAnyG_pure 2 (v := ?_) (fun _ => trivial) (by simp only [List.getElem?_toArray, List.getElem?_cons_succ, List.getElem?_cons_zero]; rfl) (by kernel_rfl) (fun _ _ _ _ _ h => h) ⟨(by rfl), (by intro c h; cases h), ?_⟩ hHeld ?_
            rotate_left
            focus (intro wS hSw; (try replace hSw := HSF.out wS hSw); (try dsimp only at hSw); go_simp; (try with_reducible rfl))
            (try simp only [Act.put, List.setIfInBounds_toArray, List.set_cons_zero, List.set_cons_succ])
            refine wpAnyG_pure 3 (v := ?_) (fun _ => trivial) (by simp only [List.getElem?_toArray, List.getElem?_cons_succ, List.getElem?_cons_zero]; rfl) (by kernel_rfl) (fun _ _ _ _ _ h => h) ⟨(by rfl), (by intro c h; cases h), ?_⟩ hHeld ?_
            rotate_left
            focus (intro wS hSw; (try replace hSw := HSF.out wS hSw); (try dsimp only at hSw); go_simp; (try with_reducible rfl))
            (try simp only [Act.put, List.setIfInBounds_toArray, List.set_cons_zero, List.set_cons_succ])
            refine wpAnyG_take 4 (v := ?_) (fun _ => trivial) (by simp only [List.getElem?_toArray, List.getElem?_cons_succ, List.getElem?_cons_zero]; rfl) (by kernel_rfl) (fun _ _ _ _ _ h => h) ⟨(by rfl), (by intro c h; cases h), ?_⟩ hHeld ?_
            rotate_left
            focus (intro wS hSw; (try replace hSw := HSF.out wS hSw); (try dsimp only at hSw); go_simp; (try with_reducible rfl))
            (try simp only [Act.put, List.setIfInBounds_toArray, List.set_cons_zero, List.set_cons_succ])
            refine wpAnyG_take 5 (v := ?_) (fun _ => trivial) (by simp only [List.getElem?_toArray, List.getElem?_cons_succ, List.getElem?_cons_zero]; rfl) (by kernel_rfl) (fun _ _ _ _ _ h => h) ⟨(by rfl), (by intro c h; cases h), ?_⟩ hHeld ?_
            rotate_left
            focus (intro wS hSw; (try replace hSw := HSF.out wS hSw); (try dsimp only at hSw); go_simp; (try with_reducible rfl))
            (try simp only [Act.put, List.setIfInBounds_toArray, List.set_cons_zero, List.set_cons_succ])
            refine wpAnyS_ready [6] (by kernel_rfl) (by simp) (AllReadyS.consG (by simp only [List.getElem?_toArray, List.getElem?_cons_succ, List.getElem?_cons_zero]; rfl) (by rfl) (fun K hK => ?_) AllReadyS.nil)
            refine callS (by intro c h; cases h) (by go_simp; try with_reducible rfl) (HC.out _ BD.out) ?_
            intro w6 hBq
            have B6 := hid (BD.out.trans (hBq.mono BD.out.size))
            refine hK.out _ _ B6.out ?_
            (try simp only [Act.put, List.setIfInBounds_toArray, List.set_cons_zero, List.set_cons_succ])
            clear hK K hBq
            clear hHeld
            have hHeld := B6.out
            refine wpAnyG_pure 7 (v := ?_) (fun _ => trivial) (by simp only [List.getElem?_toArray, List.getElem?_cons_succ, List.getElem?_cons_zero]; rfl) (by kernel_rfl) (fun _ _ _ _ _ h => h) ⟨(by rfl), (by intro c h; cases h), ?_⟩ hHeld ?_
            rotate_left
            focus (intro wS hSw; (try replace hSw := HSF.out wS hSw); (try dsimp only at hSw); go_simp; (try with_reducible rfl))
            (try simp only [Act.put, List.setIfInBounds_toArray, List.set_cons_zero, List.set_cons_succ])
            refine wpAnyG_pure 8 (v := ?_) (fun _ => trivial) (by simp only [List.getElem?_toArray, List.getElem?_cons_succ, List.getElem?_cons_zero]; rfl) (by kernel_rfl) (fun _ _ _ _ _ h => h) ⟨(by rfl), (by intro c h; cases h), ?_⟩ hHeld ?_
            rotate_left
            focus (intro wS hSw; (try replace hSw := HSF.out wS hSw); (try dsimp only at hSw); go_simp; (try with_reducible rfl))
            (try simp only [Act.put, List.setIfInBounds_toArray, List.set_cons_zero, List.set_cons_succ])
            refine wpAnyG_pure 9 (v := ?_) (fun _ => trivial) (by simp only [List.getElem?_toArray, List.getElem?_cons_succ, List.getElem?_cons_zero]; rfl) (by kernel_rfl) (fun _ _ _ _ _ h => h) ⟨(by rfl), (by intro c h; cases h), ?_⟩ hHeld ?_
            rotate_left
            focus (intro wS hSw; (try replace hSw := HSF.out wS hSw); (try dsimp only at hSw); go_simp; (try with_reducible rfl))
            (try simp only [Act.put, List.setIfInBounds_toArray, List.set_cons_zero, List.set_cons_succ])
            refine wpAnyG_pure 10 (v := ?_) (fun _ => trivial) (by simp only [List.getElem?_toArray, List.getElem?_cons_succ, List.getElem?_cons_zero]; rfl) (by kernel_rfl) (fun _ _ _ _ _ h => h) ⟨(by rfl), (by intro c h; cases h), ?_⟩ hHeld ?_
            rotate_left
            focus (intro wS hSw; (try replace hSw := HSF.out wS hSw); (try dsimp only at hSw); go_simp; (try with_reducible rfl))
            (try simp only [Act.put, List.setIfInBounds_toArray, List.set_cons_zero, List.set_cons_succ])
            refine wpAnyG_pure 11 (v := ?_) (fun _ => trivial) (by simp only [List.getElem?_toArray, List.getElem?_cons_succ, List.getElem?_cons_zero]; rfl) (by kernel_rfl) (fun _ _ _ _ _ h => h) ⟨(by rfl), (by intro c h; cases h), ?_⟩ hHeld ?_
            rotate_left
            focus (intro wS hSw; (try replace hSw := HSF.out wS hSw); (try dsimp only at hSw); go_simp; (try with_reducible rfl))
            (try simp only [Act.put, List.setIfInBounds_toArray, List.set_cons_zero, List.set_cons_succ])
            refine wpAnyG_pure 12 (v := ?_) (fun _ => trivial) (by simp only [List.getElem?_toArray, List.getElem?_cons_succ, List.getElem?_cons_zero]; rfl) (by kernel_rfl) (fun _ _ _ _ _ h => h) ⟨(by rfl), (by intro c h; cases h), ?_⟩ hHeld ?_
            rotate_left
            focus (intro wS hSw; (try replace hSw := HSF.out wS hSw); (try dsimp only at hSw); go_simp; (try with_reducible rfl))
            (try simp only [Act.put, List.setIfInBounds_toArray, List.set_cons_zero, List.set_cons_succ])
            refine wpAnyG_take 13 (v := ?_) (fun _ => trivial) (by simp only [List.getElem?_toArray, List.getElem?_cons_succ, List.getElem?_cons_zero]; rfl) (by kernel_rfl) (fun _ _ _ _ _ h => h) ⟨(by rfl), (by intro c h; cases h), ?_⟩ hHeld ?_
            rotate_left
            focus (intro wS hSw; (try replace hSw := HSF.out wS hSw); (try dsimp only at hSw); go_simp; (try with_reducible rfl))
            (try simp only [Act.put, List.setIfInBounds_toArray, List.set_cons_zero, List.set_cons_succ])
            refine wpAnyG_pure 14 (v := ?_) (fun _ => trivial) (by simp only [List.getElem?_toArray, List.getElem?_cons_succ, List.getElem?_cons_zero]; rfl) (by kernel_rfl) (fun _ _ _ _ _ h => h) ⟨(by rfl), (by intro c h; cases h), ?_⟩ hHeld ?_
            rotate_left
            focus (intro wS hSw; (try replace hSw := HSF.out wS hSw); (try dsimp only at hSw); go_simp; (try with_reducible rfl))
            (try simp only [Act.put, List.setIfInBounds_toArray, List.set_cons_zero, List.set_cons_succ])
            refine wpAnyG_pure 15 (v := ?_) (fun _ => trivial) (by simp only [List.getElem?_toArray, List.getElem?_cons_succ, List.getElem?_cons_zero]; rfl) (by kernel_rfl) (fun _ _ _ _ _ h => h) ⟨(by rfl), (by intro c h; cases h), ?_⟩ hHeld ?_
            rotate_left
            focus (intro wS hSw; (try replace hSw := HSF.out wS hSw); (try dsimp only at hSw); go_simp; (try with_reducible rfl))
            (try simp only [Act.put, List.setIfInBounds_toArray, List.set_cons_zero, List.set_cons_succ])
            refine wpAnyG_pure 16 (v := ?_) (fun _ => trivial) (by simp only [List.getElem?_toArray, List.getElem?_cons_succ, List.getElem?_cons_zero]; rfl) (by kernel_rfl) (fun _ _ _ _ _ h => h) ⟨(by rfl), (by intro c h; cases h), ?_⟩ hHeld ?_
            rotate_left
            focus (intro wS hSw; (try replace hSw := HSF.out wS hSw); (try dsimp only at hSw); go_simp; (try with_reducible rfl))
            (try simp only [Act.put, List.setIfInBounds_toArray, List.set_cons_zero, List.set_cons_succ])
            refine wpAnyG_skip 17 (fun _ => trivial) (by simp only [List.getElem?_toArray, List.getElem?_cons_succ, List.getElem?_cons_zero]; rfl) (by kernel_rfl) (fun _ _ _ _ _ h => h) (by rfl) hHeld ?_
            (try simp only [Act.put, List.setIfInBounds_toArray, List.set_cons_zero, List.set_cons_succ])
            refine wpAnyG_skip 18 (fun _ => trivial) (by simp only [List.getElem?_toArray, List.getElem?_cons_succ, List.getElem?_cons_zero]; rfl) (by kernel_rfl) (fun _ _ _ _ _ h => h) (by rfl) hHeld ?_
            (try simp only [Act.put, List.setIfInBounds_toArray, List.set_cons_zero, List.set_cons_succ])
            refine wpAnyG_skip 19 (fun _ => trivial) (by simp only [List.getElem?_toArray, List.getElem?_cons_succ, List.getElem?_cons_zero]; rfl) (by kernel_rfl) (fun _ _ _ _ _ h => h) (by rfl) hHeld ?_
            (try simp only [Act.put, List.setIfInBounds_toArray, List.set_cons_zero, List.set_cons_succ])
            refine wpAnyG_pure 20 (v := ?_) (fun _ => trivial) (by simp only [List.getElem?_toArray, List.getElem?_cons_succ, List.getElem?_cons_zero]; rfl) (by kernel_rfl) (fun _ _ _ _ _ h => h) ⟨(by rfl), (by intro c h; cases h), ?_⟩ hHeld ?_
            rotate_left
            focus (intro wS hSw; (try replace hSw := HSF.out wS hSw); (try dsimp only at hSw); go_simp; (try with_reducible rfl))
            (try simp only [Act.put, List.setIfInBounds_toArray, List.set_cons_zero, List.set_cons_succ])
            refine wpAnyS_done (by kernel_rfl) ?_
            clear hHeld
            go_wp2_with fail
            go_roundw
            case rel => exact ⟨k + 1, r, by omega, by go_num, rfl, hF.out.skip hnc.out, HB.out.trans (B6.out.mono hsz), HY.out.below B6.out HY.out.lt⟩
            case measure => simp [intOf]; omega
        case neg =>
          have hx2 : (x1 == 0) = false := by simp [hx1]
          cases hin : but.any (fun y => decide (y = (k : Int))) with
          | true =>
            have hnc := hid (show ¬ cand lots bs (wk, wc, wu) but k from fun h => h.2.2.2 (by
              obtain ⟨y, hy, hyk⟩ := List.any_eq_true.1 hin
              simp only [decide_eq_true_eq] at hyk
              rw [← hyk]; exact hy))
            rw [hin] at HI
            as_aux_lemma =>
              go_upto_region 5 with fail
              refine wpIn_wide.1 (wpIn_region_S (n := 0) (fun wq => Below wr.heap.size wr wq) [] (by kernel_rfl) BD.out (fun hHeld => ?_))
              generalize wr.drew = wd at *
              refine wpAnyG_pure 0 (v := ?_) (fun _ => trivial) (by simp only [List.getElem?_toArray, List.getElem?_cons_succ, List.getElem?_cons_zero]; rfl) (by kernel_rfl) (fun _ _ _ _ _ h => h) ⟨(by rfl), (by intro c h; cases h), ?_⟩ hHeld ?_
              rotate_left
              focus (intro wS hSw; (try replace hSw := HSF.out wS hSw); (try dsimp only at hSw); go_simp; (try with_reducible rfl))
              (try simp only [Act.put, List.setIfInBounds_toArray, List.set_cons_zero, List.set_cons_succ])
              refine wpAnyG_pure 1 (v := ?_) (fun _ => trivial) (by simp only [List.getElem?_toArray, List.getElem?_cons_succ, List.getElem?_cons_zero]; rfl) (by kernel_rfl) (fun _ _ _ _ _ h => h) ⟨(by rfl), (by intro c h; cases h), ?_⟩ hHeld ?_
              rotate_left
              focus (intro wS hSw; (try replace hSw := HSF.out wS hSw); (try dsimp only at hSw); go_simp; (try with_reducible rfl))
              (try simp only [Act.put, List.setIfInBounds_toArray, List.set_cons_zero, List.set_cons_succ])
              refine wpAnyG_pure 2 (v := ?_) (fun _ => trivial) (by simp only [List.getElem?_toArray, List.getElem?_cons_succ, List.getElem?_cons_zero]; rfl) (by kernel_rfl) (fun _ _ _ _ _ h => h) ⟨(by rfl), (by intro c h; cases h), ?_⟩ hHeld ?_
              rotate_left
              focus (intro wS hSw; (try replace hSw := HSF.out wS hSw); (try dsimp only at hSw); go_simp; (try with_reducible rfl))
              (try simp only [Act.put, List.setIfInBounds_toArray, List.set_cons_zero, List.set_cons_succ])
              refine wpAnyG_pure 3 (v := ?_) (fun _ => trivial) (by simp only [List.getElem?_toArray, List.getElem?_cons_succ, List.getElem?_cons_zero]; rfl) (by kernel_rfl) (fun _ _ _ _ _ h => h) ⟨(by rfl), (by intro c h; cases h), ?_⟩ hHeld ?_
              rotate_left
              focus (intro wS hSw; (try replace hSw := HSF.out wS hSw); (try dsimp only at hSw); go_simp; (try with_reducible rfl))
              (try simp only [Act.put, List.setIfInBounds_toArray, List.set_cons_zero, List.set_cons_succ])
              refine wpAnyG_take 4 (v := ?_) (fun _ => trivial) (by simp only [List.getElem?_toArray, List.getElem?_cons_succ, List.getElem?_cons_zero]; rfl) (by kernel_rfl) (fun _ _ _ _ _ h => h) ⟨(by rfl), (by intro c h; cases h), ?_⟩ hHeld ?_
              rotate_left
              focus (intro wS hSw; (try replace hSw := HSF.out wS hSw); (try dsimp only at hSw); go_simp; (try with_reducible rfl))
              (try simp only [Act.put, List.setIfInBounds_toArray, List.set_cons_zero, List.set_cons_succ])
              refine wpAnyG_take 5 (v := ?_) (fun _ => trivial) (by simp only [List.getElem?_toArray, List.getElem?_cons_succ, List.getElem?_cons_zero]; rfl) (by kernel_rfl) (fun _ _ _ _ _ h => h) ⟨(by rfl), (by intro c h; cases h), ?_⟩ hHeld ?_
              rotate_left
              focus (intro wS hSw; (try replace hSw := HSF.out wS hSw); (try dsimp only at hSw); go_simp; (try with_reducible rfl))
              (try simp only [Act.put, List.setIfInBounds_toArray, List.set_cons_zero, List.set_cons_succ])
              refine wpAnyS_ready [6] (by kernel_rfl) (by simp) (AllReadyS.consG (by simp only [List.getElem?_toArray, List.getElem?_cons_succ, List.getElem?_cons_zero]; rfl) (by rfl) (fun K hK => ?_) AllReadyS.nil)
              refine callS (by intro c h; cases h) (by go_simp; try with_reducible rfl) (HC.out _ BD.out) ?_
              intro w6 hBq
              have B6 := hid (BD.out.trans (hBq.mono BD.out.size))
              refine hK.out _ _ B6.out ?_
              (try simp only [Act.put, List.setIfInBounds_toArray, List.set_cons_zero, List.set_cons_succ])
              clear hK K hBq
              clear hHeld
              have hHeld := B6.out
              refine wpAnyG_pure 7 (v := ?_) (fun _ => trivial) (by simp only [List.getElem?_toArray, List.getElem?_cons_succ, List.getElem?_cons_zero]; rfl) (by kernel_rfl) (fun _ _ _ _ _ h => h) ⟨(by rfl), (by intro c h; cases h), ?_⟩ hHeld ?_
              rotate_left
              focus (intro wS hSw; (try replace hSw := HSF.out wS hSw); (try dsimp only at hSw); go_simp; (try with_reducible rfl))
              (try simp only [Act.put, List.setIfInBounds_toArray, List.set_cons_zero, List.set_cons_succ])
              refine wpAnyG_pure 8 (v := ?_) (fun _ => trivial) (by simp only [List.getElem?_toArray, List.getElem?_cons_succ, List.getElem?_cons_zero]; rfl) (by kernel_rfl) (fun _ _ _ _ _ h => h) ⟨(by rfl), (by intro c h; cases h), ?_⟩ hHeld ?_
              rotate_left
              focus (intro wS hSw; (try replace hSw := HSF.out wS hSw); (try dsimp only at hSw); go_simp; (try with_reducible rfl))
              (try simp only [Act.put, List.setIfInBounds_toArray, List.set_cons_zero, List.set_cons_succ])
              refine wpAnyG_pure 9 (v := ?_) (fun _ => trivial) (by simp only [List.getElem?_toArray, List.getElem?_cons_succ, List.getElem?_cons_zero]; rfl) (by kernel_rfl) (fun _ _ _ _ _ h => h) ⟨(by rfl), (by intro c h; cases h), ?_⟩ hHeld ?_
              rotate_left
              focus (intro wS hSw; (try replace hSw := HSF.out wS hSw); (try dsimp only at hSw); go_simp; (try with_reducible rfl))
              (try simp only [Act.put, List.setIfInBounds_toArray, List.set_cons_zero, List.set_cons_succ])
              refine wpAnyG_pure 10 (v := ?_) (fun _ => trivial) (by simp only [List.getElem?_toArray, List.getElem?_cons_succ, List.getElem?_cons_zero]; rfl) (by kernel_rfl) (fun _ _ _ _ _ h => h) ⟨(by rfl), (by intro c h; cases h), ?_⟩ hHeld ?_
              rotate_left
              focus (intro wS hSw; (try replace hSw := HSF.out wS hSw); (try dsimp only at hSw); go_simp; (try with_reducible rfl))
              (try simp only [Act.put, List.setIfInBounds_toArray, List.set_cons_zero, List.set_cons_succ])
              refine wpAnyG_pure 11 (v := ?_) (fun _ => trivial) (by simp only [List.getElem?_toArray, List.getElem?_cons_succ, List.getElem?_cons_zero]; rfl) (by kernel_rfl) (fun _ _ _ _ _ h => h) ⟨(by rfl), (by intro c h; cases h), ?_⟩ hHeld ?_
              rotate_left
              focus (intro wS hSw; (try replace hSw := HSF.out wS hSw); (try dsimp only at hSw); go_simp; (try with_reducible rfl))
              (try simp only [Act.put, List.setIfInBounds_toArray, List.set_cons_zero, List.set_cons_succ])
              refine wpAnyG_pure 12 (v := ?_) (fun _ => trivial) (by simp only [List.getElem?_toArray, List.getElem?_cons_succ, List.getElem?_cons_zero]; rfl) (by kernel_rfl) (fun _ _ _ _ _ h => h) ⟨(by rfl), (by intro c h; cases h), ?_⟩ hHeld ?_
              rotate_left
              focus (intro wS hSw; (try replace hSw := HSF.out wS hSw); (try dsimp only at hSw); go_simp; (try with_reducible rfl))
              (try simp only [Act.put, List.setIfInBounds_toArray, List.set_cons_zero, List.set_cons_succ])
              refine wpAnyG_take 13 (v := ?_) (fun _ => trivial) (by simp only [List.getElem?_toArray, List.getElem?_cons_succ, List.getElem?_cons_zero]; rfl) (by kernel_rfl) (fun _ _ _ _ _ h => h) ⟨(by rfl), (by intro c h; cases h), ?_⟩ hHeld ?_
              rotate_left
              focus (intro wS hSw; (try replace hSw := HSF.out wS hSw); (try dsimp only at hSw); go_simp; (try with_reducible rfl))
              (try simp only [Act.put, List.setIfInBounds_toArray, List.set_cons_zero, List.set_cons_succ])
              refine wpAnyG_pure 14 (v := ?_) (fun _ => trivial) (by simp only [List.getElem?_toArray, List.getElem?_cons_succ, List.getElem?_cons_zero]; rfl) (by kernel_rfl) (fun _ _ _ _ _ h => h) ⟨(by rfl), (by intro c h; cases h), ?_⟩ hHeld ?_
              rotate_left
              focus (intro wS hSw; (try replace hSw := HSF.out wS hSw); (try dsimp only at hSw); go_simp; (try with_reducible rfl))
              (try simp only [Act.put, List.setIfInBounds_toArray, List.set_cons_zero, List.set_cons_succ])
              refine wpAnyG_pure 15 (v := ?_) (fun _ => trivial) (by simp only [List.getElem?_toArray, List.getElem?_cons_succ, List.getElem?_cons_zero]; rfl) (by kernel_rfl) (fun _ _ _ _ _ h => h) ⟨(by rfl), (by intro c h; cases h), ?_⟩ hHeld ?_
              rotate_left
              focus (intro wS hSw; (try replace hSw := HSF.out wS hSw); (try dsimp only at hSw); go_simp; (try with_reducible rfl))
              (try simp only [Act.put, List.setIfInBounds_toArray, List.set_cons_zero, List.set_cons_succ])
              refine wpAnyG_pure 16 (v := ?_) (fun _ => trivial) (by simp only [List.getElem?_toArray, List.getElem?_cons_succ, List.getElem?_cons_zero]; rfl) (by kernel_rfl) (fun _ _ _ _ _ h => h) ⟨(by rfl), (by intro c h; cases h), ?_⟩ hHeld ?_
              rotate_left
              focus (intro wS hSw; (try replace hSw := HSF.out wS hSw); (try dsimp only at hSw); go_simp; (try with_reducible rfl))
              (try simp only [Act.put, List.setIfInBounds_toArray, List.set_cons_zero, List.set_cons_succ])
              refine wpAnyG_pure 17 (v := ?_) (fun _ => trivial) (by simp only [List.getElem?_toArray, List.getElem?_cons_succ, List.getElem?_cons_zero]; rfl) (by kernel_rfl) (fun _ _ _ _ _ h => h) ⟨(by rfl), (by intro c h; cases h), ?_⟩ hHeld ?_
              rotate_left
              focus (intro wS hSw; (try replace hSw := HSF.out wS hSw); (try dsimp only at hSw); go_simp; (try with_reducible rfl))
              (try simp only [Act.put, List.setIfInBounds_toArray, List.set_cons_zero, List.set_cons_succ])
              refine wpAnyG_pure 18 (v := ?_) (fun _ => trivial) (by simp only [List.getElem?_toArray, List.getElem?_cons_succ, List.getElem?_cons_zero]; rfl) (by kernel_rfl) (fun _ _ _ _ _ h => h) ⟨(by rfl), (by intro c h; cases h), ?_⟩ hHeld ?_
              rotate_left
              focus (intro wS hSw; (try replace hSw := HSF.out wS hSw); (try dsimp only at hSw); go_simp; (try with_reducible rfl))
              (try simp only [Act.put, List.setIfInBounds_toArray, List.set_cons_zero, List.set_cons_succ])
              refine wpAnyS_ready [19] (by kernel_rfl) (by simp) (AllReadyS.consG (by simp only [List.getElem?_toArray, List.getElem?_cons_succ, List.getElem?_cons_zero]; rfl) (by rfl) (fun K hK => ?_) AllReadyS.nil)
              refine callS (by intro c h; cases h) (by go_simp; try with_reducible rfl) (HI.out _ B6.out) ?_
              intro w7 hBq
              have B7 := hid (B6.out.trans (hBq.mono B6.out.size))
              refine hK.out _ _ B7.out ?_
              (try simp only [Act.put, List.setIfInBounds_toArray, List.set_cons_zero, List.set_cons_succ])
              clear hK K hBq
              clear hHeld
              have hHeld := B7.out
              refine wpAnyG_pure 20 (v := ?_) (fun _ => trivial) (by simp only [List.getElem?_toArray, List.getElem?_cons_succ, List.getElem?_cons_zero]; rfl) (by kernel_rfl) (fun _ _ _ _ _ h => h) ⟨(by rfl), (by intro c h; cases h), ?_⟩ hHeld ?_
              rotate_left
              focus (intro wS hSw; (try replace hSw := HSF.out wS hSw); (try dsimp only at hSw); go_simp; (try with_reducible rfl))
              (try simp only [Act.put, List.setIfInBounds_toArray, List.set_cons_zero, List.set_cons_succ])
              refine wpAnyS_done (by kernel_rfl) ?_
              clear hHeld
              go_wp2_with fail
              go_roundw
              case rel => exact ⟨k + 1, r, by omega, by go_num, rfl, hF.out.skip hnc.out, HB.out.trans (B7.out.mono hsz), HY.out.below B7.out HY.out.lt⟩
              case measure => simp [intOf]; omega
          | false =>
            have hnc := hid (show cand lots bs (wk, wc, wu) but k from ⟨hlt, by rw [HCN.out]; exact hx1, by rw [HG.out]; exact HQ.out, fun h => by
              have h5 := List.any_eq_false.1 hin _ h
              simp at h5⟩)
            rw [hin] at HI
            clear hin
            go_upto_region 5 with fail
            refine wpIn_wide.1 (wpIn_region_S (n := 0) (fun wq => Below wr.heap.size wr wq) [] (by kernel_rfl) BD.out (fun hHeld => ?_))
            generalize wr.drew = wd at *
            refine wpAnyG_pure 0 (v := ?_) (fun _ => trivial) (by simp only [List.getElem?_toArray, List.getElem?_cons_succ, List.getElem?_cons_zero]; rfl) (by kernel_rfl) (fun _ _ _ _ _ h => h) ⟨(by rfl), (by intro c h; cases h), ?_⟩ hHeld ?_
            rotate_left
            focus (intro wS hSw; (try replace hSw := HSF.out wS hSw); (try dsimp only at hSw); go_simp; (try with_reducible rfl))
            (try simp only [Act.put, List.setIfInBounds_toArray, List.set_cons_zero, List.set_cons_succ])
            refine wpAnyG_pure 1 (v := ?_) (fun _ => trivial) (by simp only [List.getElem?_toArray, List.getElem?_cons_succ, List.getElem?_cons_zero]; rfl) (by kernel_rfl) (fun _ _ _ _ _ h => h) ⟨(by rfl), (by intro c h; cases h), ?_⟩ hHeld ?_
            rotate_left
            focus (intro wS hSw; (try replace hSw := HSF.out wS hSw); (try dsimp only at hSw); go_simp; (try with_reducible rfl))
            (try simp only [Act.put, List.setIfInBounds_toArray, List.set_cons_zero, List.set_cons_succ])
            refine wpAnyG_pure 2 (v := ?_) (fun _ => trivial) (by simp only [List.getElem?_toArray, List.getElem?_cons_succ, List.getElem?_cons_zero]; rfl) (by kernel_rfl) (fun _ _ _ _ _ h => h) ⟨(by rfl), (by intro c h; cases h), ?_⟩ hHeld ?_
            rotate_left
            focus (intro wS hSw; (try replace hSw := HSF.out wS hSw); (try dsimp only at hSw); go_simp; (try with_reducible rfl))
            (try simp only [Act.put, List.setIfInBounds_toArray, List.set_cons_zero, List.set_cons_succ])
            refine wpAnyG_pure 3 (v := ?_) (fun _ => trivial) (by simp only [List.getElem?_toArray, List.getElem?_cons_succ, List.getElem?_cons_zero]; rfl) (by kernel_rfl) (fun _ _ _ _ _ h => h) ⟨(by rfl), (by intro c h; cases h), ?_⟩ hHeld ?_
            rotate_left
            focus (intro wS hSw; (try replace hSw := HSF.out wS hSw); (try dsimp only at hSw); go_simp; (try with_reducible rfl))
            (try simp only [Act.put, List.setIfInBounds_toArray, List.set_cons_zero, List.set_cons_succ])
            refine wpAnyG_take 4 (v := ?_) (fun _ => trivial) (by simp only [List.getElem?_toArray, List.getElem?_cons_succ, List.getElem?_cons_zero]; rfl) (by kernel_rfl) (fun _ _ _ _ _ h => h) ⟨(by rfl), (by intro c h; cases h), ?_⟩ hHeld ?_
            rotate_left
            focus (intro wS hSw; (try replace hSw := HSF.out wS hSw); (try dsimp only at hSw); go_simp; (try with_reducible rfl))
            (try simp only [Act.put, List.setIfInBounds_toArray, List.set_cons_zero, List.set_cons_succ])
            refine wpAnyG_take 5 (v := ?_) (fun _ => trivial) (by simp only [List.getElem?_toArray, List.getElem?_cons_succ, List.getElem?_cons_zero]; rfl) (by kernel_rfl) (fun _ _ _ _ _ h => h) ⟨(by rfl), (by intro c h; cases h), ?_⟩ hHeld ?_
            rotate_left
            focus (intro wS hSw; (try replace hSw := HSF.out wS hSw); (try dsimp only at hSw); go_simp; (try with_reducible rfl))
            (try simp only [Act.put, List.setIfInBounds_toArray, List.set_cons_zero, List.set_cons_succ])
            refine wpAnyS_ready [6] (by kernel_rfl) (by simp) (AllReadyS.consG (by simp only [List.getElem?_toArray, List.getElem?_cons_succ, List.getElem?_cons_zero]; rfl) (by rfl) (fun K hK => ?_) AllReadyS.nil)
            refine callS (by intro c h; cases h) (by go_simp; try with_reducible rfl) (HC.out _ BD.out) ?_
            intro w6 hBq
            have B6 := hid (BD.out.trans (hBq.mono BD.out.size))
            refine hK.out _ _ B6.out ?_
            (try simp only [Act.put, List.setIfInBounds_toArray, List.set_cons_zero, List.set_cons_succ])
            clear hK K hBq
            clear hHeld
            have hHeld := B6.out
            refine wpAnyG_pure 7 (v := ?_) (fun _ => trivial) (by simp only [List.getElem?_toArray, List.getElem?_cons_succ, List.getElem?_cons_zero]; rfl) (by kernel_rfl) (fun _ _ _ _ _ h => h) ⟨(by rfl), (by intro c h; cases h), ?_⟩ hHeld ?_
            rotate_left
            focus (intro wS hSw; (try replace hSw := HSF.out wS hSw); (try dsimp only at hSw); go_simp; (try with_reducible rfl))
            (try simp only [Act.put, List.setIfInBounds_toArray, List.set_cons_zero, List.set_cons_succ])
            refine wpAnyG_pure 8 (v := ?_) (fun _ => trivial) (by simp only [List.getElem?_toArray, List.getElem?_cons_succ, List.getElem?_cons_zero]; rfl) (by kernel_rfl) (fun _ _ _ _ _ h => h) ⟨(by rfl), (by intro c h; cases h), ?_⟩ hHeld ?_
            rotate_left
            focus (intro wS hSw; (try replace hSw := HSF.out wS hSw); (try dsimp only at hSw); go_simp; (try with_reducible rfl))
            (try simp only [Act.put, List.setIfInBounds_toArray, List.set_cons_zero, List.set_cons_succ])
            refine wpAnyG_pure 9 (v := ?_) (fun _ => trivial) (by simp only [List.getElem?_toArray, List.getElem?_cons_succ, List.getElem?_cons_zero]; rfl) (by kernel_rfl) (fun _ _ _ _ _ h => h) ⟨(by rfl), (by intro c h; cases h), ?_⟩ hHeld ?_
            rotate_left
            focus (intro wS hSw; (try replace hSw := HSF.out wS hSw); (try dsimp only at hSw); go_simp; (try with_reducible rfl))
            (try simp only [Act.put, List.setIfInBounds_toArray, List.set_cons_zero, List.set_cons_succ])
            refine wpAnyG_pure 10 (v := ?_) (fun _ => trivial) (by simp only [List.getElem?_toArray, List.getElem?_cons_succ, List.getElem?_cons_zero]; rfl) (by kernel_rfl) (fun _ _ _ _ _ h => h) ⟨(by rfl), (by intro c h; cases h), ?_⟩ hHeld ?_
            rotate_left
            focus (intro wS hSw; (try replace hSw := HSF.out wS hSw); (try dsimp only at hSw); go_simp; (try with_reducible rfl))
            (try simp only [Act.put, List.setIfInBounds_toArray, List.set_cons_zero, List.set_cons_succ])
            refine wpAnyG_pure 11 (v := ?_) (fun _ => trivial) (by simp only [List.getElem?_toArray, List.getElem?_cons_succ, List.getElem?_cons_zero]; rfl) (by kernel_rfl) (fun _ _ _ _ _ h => h) ⟨(by rfl), (by intro c h; cases h), ?_⟩ hHeld ?_
            rotate_left
            focus (intro wS hSw; (try replace hSw := HSF.out wS hSw); (try dsimp only at hSw); go_simp; (try with_reducible rfl))
            (try simp only [Act.put, List.setIfInBounds_toArray, List.set_cons_zero, List.set_cons_succ])
            refine wpAnyG_pure 12 (v := ?_) (fun _ => trivial) (by simp only [List.getElem?_toArray, List.getElem?_cons_succ, List.getElem?_cons_zero]; rfl) (by kernel_rfl) (fun _ _ _ _ _ h => h) ⟨(by rfl), (by intro c h; cases h), ?_⟩ hHeld ?_
            rotate_left
            focus (intro wS hSw; (try replace hSw := HSF.out wS hSw); (try dsimp only at hSw); go_simp; (try with_reducible rfl))
            (try simp only [Act.put, List.setIfInBounds_toArray, List.set_cons_zero, List.set_cons_succ])
            refine wpAnyG_take 13 (v := ?_) (fun _ => trivial) (by simp only [List.getElem?_toArray, List.getElem?_cons_succ, List.getElem?_cons_zero]; rfl) (by kernel_rfl) (fun _ _ _ _ _ h => h) ⟨(by rfl), (by intro c h; cases h), ?_⟩ hHeld ?_
            rotate_left
            focus (intro wS hSw; (try replace hSw := HSF.out wS hSw); (try dsimp only at hSw); go_simp; (try with_reducible rfl))
            (try simp only [Act.put, List.setIfInBounds_toArray, List.set_cons_zero, List.set_cons_succ])
            refine wpAnyG_pure 14 (v := ?_) (fun _ => trivial) (by simp only [List.getElem?_toArray, List.getElem?_cons_succ, List.getElem?_cons_zero]; rfl) (by kernel_rfl) (fun _ _ _ _ _ h => h) ⟨(by rfl), (by intro c h; cases h), ?_⟩ hHeld ?_
            rotate_left
            focus (intro wS hSw; (try replace hSw := HSF.out wS hSw); (try dsimp only at hSw); go_simp; (try with_reducible rfl))
            (try simp only [Act.put, List.setIfInBounds_toArray, List.set_cons_zero, List.set_cons_succ])
            refine wpAnyG_pure 15 (v := ?_) (fun _ => trivial) (by simp only [List.getElem?_toArray, List.getElem?_cons_succ, List.getElem?_cons_zero]; rfl) (by kernel_rfl) (fun _ _ _ _ _ h => h) ⟨(by rfl), (by intro c h; cases h), ?_⟩ hHeld ?_
            rotate_left
            focus (intro wS hSw; (try replace hSw := HSF.out wS hSw); (try dsimp only at hSw); go_simp; (try with_reducible rfl))
            (try simp only [Act.put, List.setIfInBounds_toArray, List.set_cons_zero, List.set_cons_succ])
            refine wpAnyG_pure 16 (v := ?_) (fun _ => trivial) (by simp only [List.getElem?_toArray, List.getElem?_cons_succ, List.getElem?_cons_zero]; rfl) (by kernel_rfl) (fun _ _ _ _ _ h => h) ⟨(by rfl), (by intro c h; cases h), ?_⟩ hHeld ?_
            rotate_left
            focus (intro wS hSw; (try replace hSw := HSF.out wS hSw); (try dsimp only at hSw); go_simp; (try with_reducible rfl))
            (try simp only [Act.put, List.setIfInBounds_toArray, List.set_cons_zero, List.set_cons_succ])
            refine wpAnyG_pure 17 (v := ?_) (fun _ => trivial) (by simp only [List.getElem?_toArray, List.getElem?_cons_succ, List.getElem?_cons_zero]; rfl) (by kernel_rfl) (fun _ _ _ _ _ h => h) ⟨(by rfl), (by intro c h; cases h), ?_⟩ hHeld ?_
            rotate_left
            focus (intro wS hSw; (try replace hSw := HSF.out wS hSw); (try dsimp only at hSw); go_simp; (try with_reducible rfl))
            (try simp only [Act.put, List.setIfInBounds_toArray, List.set_cons_zero, List.set_cons_succ])
            refine wpAnyG_pure 18 (v := ?_) (fun _ => trivial) (by simp only [List.getElem?_toArray, List.getElem?_cons_succ, List.getElem?_cons_zero]; rfl) (by kernel_rfl) (fun _ _ _ _ _ h => h) ⟨(by rfl), (by intro c h; cases h), ?_⟩ hHeld ?_
            rotate_left
            focus (intro wS hSw; (try replace hSw := HSF.out wS hSw); (try dsimp only at hSw); go_simp; (try with_reducible rfl))
            (try simp only [Act.put, List.setIfInBounds_toArray, List.set_cons_zero, List.set_cons_succ])
            refine wpAnyS_ready [19] (by kernel_rfl) (by simp) (AllReadyS.consG (by simp only [List.getElem?_toArray, List.getElem?_cons_succ, List.getElem?_cons_zero]; rfl) (by rfl) (fun K hK => ?_) AllReadyS.nil)
            refine callS (by intro c h; cases h) (by go_simp; try with_reducible rfl) (HI.out _ B6.out) ?_
            intro w7 hBq
            have B7 := hid (B6.out.trans (hBq.mono B6.out.size))
            refine hK.out _ _ B7.out ?_
            (try simp only [Act.put, List.setIfInBounds_toArray, List.set_cons_zero, List.set_cons_succ])
            clear hK K hBq
            clear hHeld
            have hHeld := B7.out
            refine wpAnyG_pure 20 (v := ?_) (fun _ => trivial) (by simp only [List.getElem?_toArray, List.getElem?_cons_succ, List.getElem?_cons_zero]; rfl) (by kernel_rfl) (fun _ _ _ _ _ h => h) ⟨(by rfl), (by intro c h; cases h), ?_⟩ hHeld ?_
            rotate_left
            focus (intro wS hSw; (try replace hSw := HSF.out wS hSw); (try dsimp only at hSw); go_simp; (try with_reducible rfl))
            (try simp only [Act.put, List.setIfInBounds_toArray, List.set_cons_zero, List.set_cons_succ])
            refine wpAnyS_done (by kernel_rfl) ?_
            clear hHeld HSF BD B6 HC HI
            have BD8 := hid ((Below.refl w7.heap.size w7).drew)
            have B07 := hid (HB.out.trans (B7.out.mono hsz))
            obtain ⟨bl, ol, kl, rfl, hbl, hkl, hkll, le⟩ := lot_cells_at H.out HQ.out
            simp only at hkl
            subst hkl
            have HEK := hid (show expAt lots bs k = (lotAt lots ((kl : Int), x1, x2)).2.1 by unfold expAt; rw [HG.out])
            generalize (lotAt lots ((kl : Int), x1, x2)).2.1 = ek at *
            have hklI : (kl : Int) < lots.length := by omega
            obtain ⟨_, bk⟩ := HBX.out k hlt
            rw [HXX.out] at bk
            simp only at bk
            replace bk := (bcell B07.out b _ hbz).trans bk
            replace le := (bcell B07.out bl _ hbl).trans le
            have hz7 : b < w7.heap.size := by have := B07.out.size; omega
            have hl7 : bl < w7.heap.size := by have := B07.out.size; omega
            by_cases hr0 : r < 0
            case pos =>
              have hfr := hid (show FirstN lots bs (wk, wc, wu) but (k + 1) k by
                have h5 := hF.out
                rcases h5 with ⟨rfl, h6⟩ | ⟨j, rfl, _⟩
                · exact FirstN.fresh (.inl ⟨rfl, h6⟩) hnc.out
                · omega)
              have HSF := hid (fun (wq : World) (hq : Below w7.heap.size w7 wq) => And.intro ((bcell hq _ _ hz7).trans bk) ((bcell hq _ _ hl7).trans le))
              have hee : ¬ ek < ek := by omega
              clear bk le HBX
              as_aux_lemma =>
                go_upto_region 8 with fail
                refine wpIn_wide.1 (wpIn_region_S (n := 0) (fun wq => Below w7.heap.size w7 wq) [] (by kernel_rfl) BD8.out (fun hHeld => ?_))
                generalize w7.drew = wd8 at *
                refine wpAnyG_pure 0 (v := ?_) (fun _ => trivial) (by simp only [List.getElem?_toArray, List.getElem?_cons_succ, List.getElem?_cons_zero]; rfl) (by kernel_rfl) (fun _ _ _ _ _ h => h) ⟨(by rfl), (by intro c h; cases h), ?_⟩ hHeld ?_
                rotate_left
                focus (intro wS hSw; (try replace hSw := HSF.out wS hSw); (try dsimp only at hSw); go_simp; (try with_reducible rfl))
                (try simp only [Act.put, List.setIfInBounds_toArray, List.set_cons_zero, List.set_cons_succ])
                refine wpAnyG_pure 1 (v := ?_) (fun _ => trivial) (by simp only [List.getElem?_toArray, List.getElem?_cons_succ, List.getElem?_cons_zero]; rfl) (by kernel_rfl) (fun _ _ _ _ _ h => h) ⟨(by rfl), (by intro c h; cases h), ?_⟩ hHeld ?_
                rotate_left
                focus (intro wS hSw; (try replace hSw := HSF.out wS hSw); (try dsimp only at hSw); go_simp; (try with_reducible rfl))
                (try simp only [Act.put, List.setIfInBounds_toArray, List.set_cons_zero, List.set_cons_succ])
                refine wpAnyG_pure 2 (v := ?_) (fun _ => trivial) (by simp only [List.getElem?_toArray, List.getElem?_cons_succ, List.getElem?_cons_zero]; rfl) (by kernel_rfl) (fun _ _ _ _ _ h => h) ⟨(by rfl), (by intro c h; cases h), ?_⟩ hHeld ?_
                rotate_left
                focus (intro wS hSw; (try replace hSw := HSF.out wS hSw); (try dsimp only at hSw); go_simp; (try with_reducible rfl))
                (try simp only [Act.put, List.setIfInBounds_toArray, List.set_cons_zero, List.set_cons_succ])
                refine wpAnyG_pure 3 (v := ?_) (fun _ => trivial) (by simp only [List.getElem?_toArray, List.getElem?_cons_succ, List.getElem?_cons_zero]; rfl) (by kernel_rfl) (fun _ _ _ _ _ h => h) ⟨(by rfl), (by intro c h; cases h), ?_⟩ hHeld ?_
                rotate_left
                focus (intro wS hSw; (try replace hSw := HSF.out wS hSw); (try dsimp only at hSw); go_simp; (try with_reducible rfl))
                (try simp only [Act.put, List.setIfInBounds_toArray, List.set_cons_zero, List.set_cons_succ])
                refine wpAnyG_pure 4 (v := ?_) (fun _ => trivial) (by simp only [List.getElem?_toArray, List.getElem?_cons_succ, List.getElem?_cons_zero]; rfl) (by kernel_rfl) (fun _ _ _ _ _ h => h) ⟨(by rfl), (by intro c h; cases h), ?_⟩ hHeld ?_
                rotate_left
                focus (intro wS hSw; (try replace hSw := HSF.out wS hSw); (try dsimp only at hSw); go_simp; (try with_reducible rfl))
                (try simp only [Act.put, List.setIfInBounds_toArray, List.set_cons_zero, List.set_cons_succ])
                refine wpAnyG_take 5 (v := ?_) (fun _ => trivial) (by simp only [List.getElem?_toArray, List.getElem?_cons_succ, List.getElem?_cons_zero]; rfl) (by kernel_rfl) (fun _ _ _ _ _ h => h) ⟨(by rfl), (by intro c h; cases h), ?_⟩ hHeld ?_
                rotate_left
                focus (intro wS hSw; (try replace hSw := HSF.out wS hSw); (try dsimp only at hSw); go_simp; (try with_reducible rfl))
                (try simp only [Act.put, List.setIfInBounds_toArray, List.set_cons_zero, List.set_cons_succ])
                refine wpAnyG_pure 6 (v := ?_) (fun _ => trivial) (by simp only [List.getElem?_toArray, List.getElem?_cons_succ, List.getElem?_cons_zero]; rfl) (by kernel_rfl) (fun _ _ _ _ _ h => h) ⟨(by rfl), (by intro c h; cases h), ?_⟩ hHeld ?_
                rotate_left
                focus (intro wS hSw; (try replace hSw := HSF.out wS hSw); (try dsimp only at hSw); go_simp; (try with_reducible rfl))
                (try simp only [Act.put, List.setIfInBounds_toArray, List.set_cons_zero, List.set_cons_succ])
                refine wpAnyG_pure 7 (v := ?_) (fun _ => trivial) (by simp only [List.getElem?_toArray, List.getElem?_cons_succ, List.getElem?_cons_zero]; rfl) (by kernel_rfl) (fun _ _ _ _ _ h => h) ⟨(by rfl), (by intro c h; cases h), ?_⟩ hHeld ?_
                rotate_left
                focus (intro wS hSw; (try replace hSw := HSF.out wS hSw); (try dsimp only at hSw); go_simp; (try with_reducible rfl))
                (try simp only [Act.put, List.setIfInBounds_toArray, List.set_cons_zero, List.set_cons_succ])
                refine wpAnyG_take 8 (v := ?_) (fun _ => trivial) (by simp only [List.getElem?_toArray, List.getElem?_cons_succ, List.getElem?_cons_zero]; rfl) (by kernel_rfl) (fun _ _ _ _ _ h => h) ⟨(by rfl), (by intro c h; cases h), ?_⟩ hHeld ?_
                rotate_left
                focus (intro wS hSw; (try replace hSw := HSF.out wS hSw); (try dsimp only at hSw); go_simp; (try with_reducible rfl))
                (try simp only [Act.put, List.setIfInBounds_toArray, List.set_cons_zero, List.set_cons_succ])
                refine wpAnyG_pure 9 (v := ?_) (fun _ => trivial) (by simp only [List.getElem?_toArray, List.getElem?_cons_succ, List.getElem?_cons_zero]; rfl) (by kernel_rfl) (fun _ _ _ _ _ h => h) ⟨(by rfl), (by intro c h; cases h), ?_⟩ hHeld ?_
                rotate_left
                focus (intro wS hSw; (try replace hSw := HSF.out wS hSw); (try dsimp only at hSw); go_simp; (try with_reducible rfl))
                (try simp only [Act.put, List.setIfInBounds_toArray, List.set_cons_zero, List.set_cons_succ])
                refine wpAnyG_pure 10 (v := ?_) (fun _ => trivial) (by simp only [List.getElem?_toArray, List.getElem?_cons_succ, List.getElem?_cons_zero]; rfl) (by kernel_rfl) (fun _ _ _ _ _ h => h) ⟨(by rfl), (by intro c h; cases h), ?_⟩ hHeld ?_
                rotate_left
                focus (intro wS hSw; (try replace hSw := HSF.out wS hSw); (try dsimp only at hSw); go_simp; (try with_reducible rfl))
                (try simp only [Act.put, List.setIfInBounds_toArray, List.set_cons_zero, List.set_cons_succ])
                refine wpAnyG_pure 11 (v := ?_) (fun _ => trivial) (by simp only [List.getElem?_toArray, List.getElem?_cons_succ, List.getElem?_cons_zero]; rfl) (by kernel_rfl) (fun _ _ _ _ _ h => h) ⟨(by rfl), (by intro c h; cases h), ?_⟩ hHeld ?_
                rotate_left
                focus (intro wS hSw; (try replace hSw := HSF.out wS hSw); (try dsimp only at hSw); go_simp; (try with_reducible rfl))
                (try simp only [Act.put, List.setIfInBounds_toArray, List.set_cons_zero, List.set_cons_succ])
                refine wpAnyG_pure 12 (v := ?_) (fun _ => trivial) (by simp only [List.getElem?_toArray, List.getElem?_cons_succ, List.getElem?_cons_zero]; rfl) (by kernel_rfl) (fun _ _ _ _ _ h => h) ⟨(by rfl), (by intro c h; cases h), ?_⟩ hHeld ?_
                rotate_left
                focus (intro wS hSw; (try replace hSw := HSF.out wS hSw); (try dsimp only at hSw); go_simp; (try with_reducible rfl))
                (try simp only [Act.put, List.setIfInBounds_toArray, List.set_cons_zero, List.set_cons_succ])
                refine wpAnyG_pure 13 (v := ?_) (fun _ => trivial) (by simp only [List.getElem?_toArray, List.getElem?_cons_succ, List.getElem?_cons_zero]; rfl) (by kernel_rfl) (fun _ _ _ _ _ h => h) ⟨(by rfl), (by intro c h; cases h), ?_⟩ hHeld ?_
                rotate_left
                focus (intro wS hSw; (try replace hSw := HSF.out wS hSw); (try dsimp only at hSw); go_simp; (try with_reducible rfl))
                (try simp only [Act.put, List.setIfInBounds_toArray, List.set_cons_zero, List.set_cons_succ])
                refine wpAnyG_take 14 (v := ?_) (fun _ => trivial) (by simp only [List.getElem?_toArray, List.getElem?_cons_succ, List.getElem?_cons_zero]; rfl) (by kernel_rfl) (fun _ _ _ _ _ h => h) ⟨(by rfl), (by intro c h; cases h), ?_⟩ hHeld ?_
                rotate_left
                focus (intro wS hSw; (try replace hSw := HSF.out wS hSw); (try dsimp only at hSw); go_simp; (try with_reducible rfl))
                (try simp only [Act.put, List.setIfInBounds_toArray, List.set_cons_zero, List.set_cons_succ])
                refine wpAnyG_pure 15 (v := ?_) (fun _ => trivial) (by simp only [List.getElem?_toArray, List.getElem?_cons_succ, List.getElem?_cons_zero]; rfl) (by kernel_rfl) (fun _ _ _ _ _ h => h) ⟨(by rfl), (by intro c h; cases h), ?_⟩ hHeld ?_
                rotate_left
                focus (intro wS hSw; (try replace hSw := HSF.out wS hSw); (try dsimp only at hSw); go_simp; (try with_reducible rfl))
                (try simp only [Act.put, List.setIfInBounds_toArray, List.set_cons_zero, List.set_cons_succ])
                refine wpAnyG_pure 16 (v := ?_) (fun _ => trivial) (by simp only [List.getElem?_toArray, List.getElem?_cons_succ, List.getElem?_cons_zero]; rfl) (by kernel_rfl) (fun _ _ _ _ _ h => h) ⟨(by rfl), (by intro c h; cases h), ?_⟩ hHeld ?_
                rotate_left
                focus (intro wS hSw; (try replace hSw := HSF.out wS hSw); (try dsimp only at hSw); go_simp; (try with_reducible rfl))
                (try simp only [Act.put, List.setIfInBounds_toArray, List.set_cons_zero, List.set_cons_succ])
                refine wpAnyG_take 17 (v := ?_) (fun _ => trivial) (by simp only [List.getElem?_toArray, List.getElem?_cons_succ, List.getElem?_cons_zero]; rfl) (by kernel_rfl) (fun _ _ _ _ _ h => h) ⟨(by rfl), (by intro c h; cases h), ?_⟩ hHeld ?_
                rotate_left
                focus (intro wS hSw; (try replace hSw := HSF.out wS hSw); (try dsimp only at hSw); go_simp; (try with_reducible rfl))
                (try simp only [Act.put, List.setIfInBounds_toArray, List.set_cons_zero, List.set_cons_succ])
                refine wpAnyG_pure 18 (v := ?_) (fun _ => trivial) (by simp only [List.getElem?_toArray, List.getElem?_cons_succ, List.getElem?_cons_zero]; rfl) (by kernel_rfl) (fun _ _ _ _ _ h => h) ⟨(by rfl), (by intro c h; cases h), ?_⟩ hHeld ?_
                rotate_left
                focus (intro wS hSw; (try replace hSw := HSF.out wS hSw); (try dsimp only at hSw); go_simp; (try with_reducible rfl))
                (try simp only [Act.put, List.setIfInBounds_toArray, List.set_cons_zero, List.set_cons_succ])
                refine wpAnyS_done (by kernel_rfl) ?_
                clear hHeld
                go_wp2_with fail
                go_roundw
                case rel => exact ⟨k + 1, k, by omega, by go_num, rfl, hfr.out, HB.out.trans ((B7.out.trans (BD8.out.mono B7.out.size)).mono hsz), (HY.out.below B7.out HY.out.lt).below BD8.out (HY.out.below B7.out HY.out.lt).lt⟩
                case measure => simp [intOf]; omega
            case neg =>
              obtain ⟨j, rfl⟩ := Int.eq_ofNat_of_zero_le (show 0 ≤ r by omega)
              have hcj := hid (show j < k ∧ cand lots bs (wk, wc, wu) but j by
                rcases hF.out with ⟨h6, _⟩ | ⟨j', h6, h7, h8, _⟩
                · omega
                · obtain rfl : j = j' := by omega
                  exact ⟨h7, h8⟩)
              have hjb : j < bs.length := hcj.out.2.1
              have hjI : (j : Int) < bs.length := by omega
              have hjh := hcj.out.2.2.2.1
              have hgj : bs.getD j (0, 0, 0) = bs[j] := by simp [hjb]
              rw [hgj] at hjh
              obtain ⟨bl2, ol2, kj, e2, _, hkj, hkjl, lej⟩ := lot_cells_at H.out hjh
              injection e2 with e2
              injection e2 with e3 e4 _
              subst e3 e4
              obtain ⟨_, bj⟩ := HBX.out j hjb
              rw [hkj] at bj
              have HEJ := hid (show expAt lots bs j = (lotAt lots bs[j]).2.1 by unfold expAt; rw [hgj])
              generalize (lotAt lots bs[j]).2.1 = ej at *
              replace bj := (bcell B07.out b _ hbz).trans bj
              replace lej := (bcell B07.out bl _ hbl).trans lej
              have hkjI : (kj : Int) < lots.length := by omega
              have HSF := hid (fun (wq : World) (hq : Below w7.heap.size w7 wq) => And.intro ((bcell hq _ _ hz7).trans bk) (And.intro ((bcell hq _ _ hl7).trans le) (And.intro ((bcell hq _ _ hz7).trans bj) ((bcell hq _ _ hl7).trans lej))))
              clear bk le bj lej HBX hjh hgj hkj
              by_cases hlx : ek < ej
              case pos =>
                have hfr := hid (hF.out.better hnc.out (by rw [HEK.out, HEJ.out]; exact hlx))
                as_aux_lemma =>
                  go_upto_region 8 with fail
                  refine wpIn_wide.1 (wpIn_region_S (n := 0) (fun wq => Below w7.heap.size w7 wq) [] (by kernel_rfl) BD8.out (fun hHeld => ?_))
                  generalize w7.drew = wd8 at *
                  refine wpAnyG_pure 0 (v := ?_) (fun _ => trivial) (by simp only [List.getElem?_toArray, List.getElem?_cons_succ, List.getElem?_cons_zero]; rfl) (by kernel_rfl) (fun _ _ _ _ _ h => h) ⟨(by rfl), (by intro c h; cases h), ?_⟩ hHeld ?_
                  rotate_left
                  focus (intro wS hSw; (try replace hSw := HSF.out wS hSw); (try dsimp only at hSw); go_simp; (try with_reducible rfl))
                  (try simp only [Act.put, List.setIfInBounds_toArray, List.set_cons_zero, List.set_cons_succ])
                  refine wpAnyG_pure 1 (v := ?_) (fun _ => trivial) (by simp only [List.getElem?_toArray, List.getElem?_cons_succ, List.getElem?_cons_zero]; rfl) (by kernel_rfl) (fun _ _ _ _ _ h => h) ⟨(by rfl), (by intro c h; cases h), ?_⟩ hHeld ?_
                  rotate_left
                  focus (intro wS hSw; (try replace hSw := HSF.out wS hSw); (try dsimp only at hSw); go_simp; (try with_reducible rfl))
                  (try simp only [Act.put, List.setIfInBounds_toArray, List.set_cons_zero, List.set_cons_succ])
                  refine wpAnyG_pure 2 (v := ?_) (fun _ => trivial) (by simp only [List.getElem?_toArray, List.getElem?_cons_succ, List.getElem?_cons_zero]; rfl) (by kernel_rfl) (fun _ _ _ _ _ h => h) ⟨(by rfl), (by intro c h; cases h), ?_⟩ hHeld ?_
                  rotate_left
                  focus (intro wS hSw; (try replace hSw := HSF.out wS hSw); (try dsimp only at hSw); go_simp; (try with_reducible rfl))
                  (try simp only [Act.put, List.setIfInBounds_toArray, List.set_cons_zero, List.set_cons_succ])
                  refine wpAnyG_pure 3 (v := ?_) (fun _ => trivial) (by simp only [List.getElem?_toArray, List.getElem?_cons_succ, List.getElem?_cons_zero]; rfl) (by kernel_rfl) (fun _ _ _ _ _ h => h) ⟨(by rfl), (by intro c h; cases h), ?_⟩ hHeld ?_
                  rotate_left
                  focus (intro wS hSw; (try replace hSw := HSF.out wS hSw); (try dsimp only at hSw); go_simp; (try with_reducible rfl))
                  (try simp only [Act.put, List.setIfInBounds_toArray, List.set_cons_zero, List.set_cons_succ])
                  refine wpAnyG_pure 4 (v := ?_) (fun _ => trivial) (by simp only [List.getElem?_toArray, List.getElem?_cons_succ, List.getElem?_cons_zero]; rfl) (by kernel_rfl) (fun _ _ _ _ _ h => h) ⟨(by rfl), (by intro c h; cases h), ?_⟩ hHeld ?_
                  rotate_left
                  focus (intro wS hSw; (try replace hSw := HSF.out wS hSw); (try dsimp only at hSw); go_simp; (try with_reducible rfl))
                  (try simp only [Act.put, List.setIfInBounds_toArray, List.set_cons_zero, List.set_cons_succ])
                  refine wpAnyG_take 5 (v := ?_) (fun _ => trivial) (by simp only [List.getElem?_toArray, List.getElem?_cons_succ, List.getElem?_cons_zero]; rfl) (by kernel_rfl) (fun _ _ _ _ _ h => h) ⟨(by rfl), (by intro c h; cases h), ?_⟩ hHeld ?_
                  rotate_left
                  focus (intro wS hSw; (try replace hSw := HSF.out wS hSw); (try dsimp only at hSw); go_simp; (try with_reducible rfl))
                  (try simp only [Act.put, List.setIfInBounds_toArray, List.set_cons_zero, List.set_cons_succ])
                  refine wpAnyG_pure 6 (v := ?_) (fun _ => trivial) (by simp only [List.getElem?_toArray, List.getElem?_cons_succ, List.getElem?_cons_zero]; rfl) (by kernel_rfl) (fun _ _ _ _ _ h => h) ⟨(by rfl), (by intro c h; cases h), ?_⟩ hHeld ?_
                  rotate_left
                  focus (intro wS hSw; (try replace hSw := HSF.out wS hSw); (try dsimp only at hSw); go_simp; (try with_reducible rfl))
                  (try simp only [Act.put, List.setIfInBounds_toArray, List.set_cons_zero, List.set_cons_succ])
                  refine wpAnyG_pure 7 (v := ?_) (fun _ => trivial) (by simp only [List.getElem?_toArray, List.getElem?_cons_succ, List.getElem?_cons_zero]; rfl) (by kernel_rfl) (fun _ _ _ _ _ h => h) ⟨(by rfl), (by intro c h; cases h), ?_⟩ hHeld ?_
                  rotate_left
                  focus (intro wS hSw; (try replace hSw := HSF.out wS hSw); (try dsimp only at hSw); go_simp; (try with_reducible rfl))
                  (try simp only [Act.put, List.setIfInBounds_toArray, List.set_cons_zero, List.set_cons_succ])
                  refine wpAnyG_take 8 (v := ?_) (fun _ => trivial) (by simp only [List.getElem?_toArray, List.getElem?_cons_succ, List.getElem?_cons_zero]; rfl) (by kernel_rfl) (fun _ _ _ _ _ h => h) ⟨(by rfl), (by intro c h; cases h), ?_⟩ hHeld ?_
                  rotate_left
                  focus (intro wS hSw; (try replace hSw := HSF.out wS hSw); (try dsimp only at hSw); go_simp; (try with_reducible rfl))
                  (try simp only [Act.put, List.setIfInBounds_toArray, List.set_cons_zero, List.set_cons_succ])
                  refine wpAnyG_pure 9 (v := ?_) (fun _ => trivial) (by simp only [List.getElem?_toArray, List.getElem?_cons_succ, List.getElem?_cons_zero]; rfl) (by kernel_rfl) (fun _ _ _ _ _ h => h) ⟨(by rfl), (by intro c h; cases h), ?_⟩ hHeld ?_
                  rotate_left
                  focus (intro wS hSw; (try replace hSw := HSF.out wS hSw); (try dsimp only at hSw); go_simp; (try with_reducible rfl))
                  (try simp only [Act.put, List.setIfInBounds_toArray, List.set_cons_zero, List.set_cons_succ])
                  refine wpAnyG_pure 10 (v := ?_) (fun _ => trivial) (by simp only [List.getElem?_toArray, List.getElem?_cons_succ, List.getElem?_cons_zero]; rfl) (by kernel_rfl) (fun _ _ _ _ _ h => h) ⟨(by rfl), (by intro c h; cases h), ?_⟩ hHeld ?_
                  rotate_left
                  focus (intro wS hSw; (try replace hSw := HSF.out wS hSw); (try dsimp only at hSw); go_simp; (try with_reducible rfl))
                  (try simp only [Act.put, List.setIfInBounds_toArray, List.set_cons_zero, List.set_cons_succ])
                  refine wpAnyG_pure 11 (v := ?_) (fun _ => trivial) (by simp only [List.getElem?_toArray, List.getElem?_cons_succ, List.getElem?_cons_zero]; rfl) (by kernel_rfl) (fun _ _ _ _ _ h => h) ⟨(by rfl), (by intro c h; cases h), ?_⟩ hHeld ?_
                  rotate_left
                  focus (intro wS hSw; (try replace hSw := HSF.out wS hSw); (try dsimp only at hSw); go_simp; (try with_reducible rfl))
                  (try simp only [Act.put, List.setIfInBounds_toArray, List.set_cons_zero, List.set_cons_succ])
                  refine wpAnyG_pure 12 (v := ?_) (fun _ => trivial) (by simp only [List.getElem?_toArray, List.getElem?_cons_succ, List.getElem?_cons_zero]; rfl) (by kernel_rfl) (fun _ _ _ _ _ h => h) ⟨(by rfl), (by intro c h; cases h), ?_⟩ hHeld ?_
                  rotate_left
                  focus (intro wS hSw; (try replace hSw := HSF.out wS hSw); (try dsimp only at hSw); go_simp; (try with_reducible rfl))
                  (try simp only [Act.put, List.setIfInBounds_toArray, List.set_cons_zero, List.set_cons_succ])
                  refine wpAnyG_pure 13 (v := ?_) (fun _ => trivial) (by simp only [List.getElem?_toArray, List.getElem?_cons_succ, List.getElem?_cons_zero]; rfl) (by kernel_rfl) (fun _ _ _ _ _ h => h) ⟨(by rfl), (by intro c h; cases h), ?_⟩ hHeld ?_
                  rotate_left
                  focus (intro wS hSw; (try replace hSw := HSF.out wS hSw); (try dsimp only at hSw); go_simp; (try with_reducible rfl))
                  (try simp only [Act.put, List.setIfInBounds_toArray, List.set_cons_zero, List.set_cons_succ])
                  refine wpAnyG_take 14 (v := ?_) (fun _ => trivial) (by simp only [List.getElem?_toArray, List.getElem?_cons_succ, List.getElem?_cons_zero]; rfl) (by kernel_rfl) (fun _ _ _ _ _ h => h) ⟨(by rfl), (by intro c h; cases h), ?_⟩ hHeld ?_
                  rotate_left
                  focus (intro wS hSw; (try replace hSw := HSF.out wS hSw); (try dsimp only at hSw); go_simp; (try with_reducible rfl))
                  (try simp only [Act.put, List.setIfInBounds_toArray, List.set_cons_zero, List.set_cons_succ])
                  refine wpAnyG_pure 15 (v := ?_) (fun _ => trivial) (by simp only [List.getElem?_toArray, List.getElem?_cons_succ, List.getElem?_cons_zero]; rfl) (by kernel_rfl) (fun _ _ _ _ _ h => h) ⟨(by rfl), (by intro c h; cases h), ?_⟩ hHeld ?_
                  rotate_left
                  focus (intro wS hSw; (try replace hSw := HSF.out wS hSw); (try dsimp only at hSw); go_simp; (try with_reducible rfl))
                  (try simp only [Act.put, List.setIfInBounds_toArray, List.set_cons_zero, List.set_cons_succ])
                  refine wpAnyG_pure 16 (v := ?_) (fun _ => trivial) (by simp only [List.getElem?_toArray, List.getElem?_cons_succ, List.getElem?_cons_zero]; rfl) (by kernel_rfl) (fun _ _ _ _ _ h => h) ⟨(by rfl), (by intro c h; cases h), ?_⟩ hHeld ?_
                  rotate_left
                  focus (intro wS hSw; (try replace hSw := HSF.out wS hSw); (try dsimp only at hSw); go_simp; (try with_reducible rfl))
                  (try simp only [Act.put, List.setIfInBounds_toArray, List.set_cons_zero, List.set_cons_succ])
                  refine wpAnyG_take 17 (v := ?_) (fun _ => trivial) (by simp only [List.getElem?_toArray, List.getElem?_cons_succ, List.getElem?_cons_zero]; rfl) (by kernel_rfl) (fun _ _ _ _ _ h => h) ⟨(by rfl), (by intro c h; cases h), ?_⟩ hHeld ?_
                  rotate_left
                  focus (intro wS hSw; (try replace hSw := HSF.out wS hSw); (try dsimp only at hSw); go_simp; (try with_reducible rfl))
                  (try simp only [Act.put, List.setIfInBounds_toArray, List.set_cons_zero, List.set_cons_succ])
                  refine wpAnyG_pure 18 (v := ?_) (fun _ => trivial) (by simp only [List.getElem?_toArray, List.getElem?_cons_succ, List.getElem?_cons_zero]; rfl) (by kernel_rfl) (fun _ _ _ _ _ h => h) ⟨(by rfl), (by intro c h; cases h), ?_⟩ hHeld ?_
                  rotate_left
                  focus (intro wS hSw; (try replace hSw := HSF.out wS hSw); (try dsimp only at hSw); go_simp; (try with_reducible rfl))
                  (try simp only [Act.put, List.setIfInBounds_toArray, List.set_cons_zero, List.set_cons_succ])
                  refine wpAnyS_done (by kernel_rfl) ?_
                  clear hHeld
                  go_wp2_with fail
                  go_roundw
                  case rel => exact ⟨k + 1, k, by omega, by go_num, rfl, hfr.out, HB.out.trans ((B7.out.trans (BD8.out.mono B7.out.size)).mono hsz), (HY.out.below B7.out HY.out.lt).below BD8.out (HY.out.below B7.out HY.out.lt).lt⟩
                  case measure => simp [intOf]; omega
              case neg =>
                have hfr := hid (hF.out.stays hnc.out (by rw [HEK.out, HEJ.out]; exact hlx))
                as_aux_lemma =>
                  go_upto_region 8 with fail
                  refine wpIn_wide.1 (wpIn_region_S (n := 0) (fun wq => Below w7.heap.size w7 wq) [] (by kernel_rfl) BD8.out (fun hHeld => ?_))
                  generalize w7.drew = wd8 at *
                  refine wpAnyG_pure 0 (v := ?_) (fun _ => trivial) (by simp only [List.getElem?_toArray, List.getElem?_cons_succ, List.getElem?_cons_zero]; rfl) (by kernel_rfl) (fun _ _ _ _ _ h => h) ⟨(by rfl), (by intro c h; cases h), ?_⟩ hHeld ?_
                  rotate_left
                  focus (intro wS hSw; (try replace hSw := HSF.out wS hSw); (try dsimp only at hSw); go_simp; (try with_reducible rfl))
                  (try simp only [Act.put, List.setIfInBounds_toArray, List.set_cons_zero, List.set_cons_succ])
                  refine wpAnyG_pure 1 (v := ?_) (fun _ => trivial) (by simp only [List.getElem?_toArray, List.getElem?_cons_succ, List.getElem?_cons_zero]; rfl) (by kernel_rfl) (fun _ _ _ _ _ h => h) ⟨(by rfl), (by intro c h; cases h), ?_⟩ hHeld ?_
                  rotate_left
                  focus (intro wS hSw; (try replace hSw := HSF.out wS hSw); (try dsimp only at hSw); go_simp; (try with_reducible rfl))
                  (try simp only [Act.put, List.setIfInBounds_toArray, List.set_cons_zero, List.set_cons_succ])
                  refine wpAnyG_pure 2 (v := ?_) (fun _ => trivial) (by simp only [List.getElem?_toArray, List.getElem?_cons_succ, List.getElem?_cons_zero]; rfl) (by kernel_rfl) (fun _ _ _ _ _ h => h) ⟨(by rfl), (by intro c h; cases h), ?_⟩ hHeld ?_
                  rotate_left
                  focus (intro wS hSw; (try replace hSw := HSF.out wS hSw); (try dsimp only at hSw); go_simp; (try with_reducible rfl))
                  (try simp only [Act.put, List.setIfInBounds_toArray, List.set_cons_zero, List.set_cons_succ])
                  refine wpAnyG_pure 3 (v := ?_) (fun _ => trivial) (by simp only [List.getElem?_toArray, List.getElem?_cons_succ, List.getElem?_cons_zero]; rfl) (by kernel_rfl) (fun _ _ _ _ _ h => h) ⟨(by rfl), (by intro c h; cases h), ?_⟩ hHeld ?_
                  rotate_left
                  focus (intro wS hSw; (try replace hSw := HSF.out wS hSw); (try dsimp only at hSw); go_simp; (try with_reducible rfl))
                  (try simp only [Act.put, List.setIfInBounds_toArray, List.set_cons_zero, List.set_cons_succ])
                  refine wpAnyG_pure 4 (v := ?_) (fun _ => trivial) (by simp only [List.getElem?_toArray, List.getElem?_cons_succ, List.getElem?_cons_zero]; rfl) (by kernel_rfl) (fun _ _ _ _ _ h => h) ⟨(by rfl), (by intro c h; cases h), ?_⟩ hHeld ?_
                  rotate_left
                  focus (intro wS hSw; (try replace hSw := HSF.out wS hSw); (try dsimp only at hSw); go_simp; (try with_reducible rfl))
                  (try simp only [Act.put, List.setIfInBounds_toArray, List.set_cons_zero, List.set_cons_succ])
                  refine wpAnyG_take 5 (v := ?_) (fun _ => trivial) (by simp only [List.getElem?_toArray, List.getElem?_cons_succ, List.getElem?_cons_zero]; rfl) (by kernel_rfl) (fun _ _ _ _ _ h => h) ⟨(by rfl), (by intro c h; cases h), ?_⟩ hHeld ?_
                  rotate_left
                  focus (intro wS hSw; (try replace hSw := HSF.out wS hSw); (try dsimp only at hSw); go_simp; (try with_reducible rfl))
                  (try simp only [Act.put, List.setIfInBounds_toArray, List.set_cons_zero, List.set_cons_succ])
                  refine wpAnyG_pure 6 (v := ?_) (fun _ => trivial) (by simp only [List.getElem?_toArray, List.getElem?_cons_succ, List.getElem?_cons_zero]; rfl) (by kernel_rfl) (fun _ _ _ _ _ h => h) ⟨(by rfl), (by intro c h; cases h), ?_⟩ hHeld ?_
                  rotate_left
                  focus (intro wS hSw; (try replace hSw := HSF.out wS hSw); (try dsimp only at hSw); go_simp; (try with_reducible rfl))
                  (try simp only [Act.put, List.setIfInBounds_toArray, List.set_cons_zero, List.set_cons_succ])
                  refine wpAnyG_pure 7 (v := ?_) (fun _ => trivial) (by simp only [List.getElem?_toArray, List.getElem?_cons_succ, List.getElem?_cons_zero]; rfl) (by kernel_rfl) (fun _ _ _ _ _ h => h) ⟨(by rfl), (by intro c h; cases h), ?_⟩ hHeld ?_
                  rotate_left
                  focus (intro wS hSw; (try replace hSw := HSF.out wS hSw); (try dsimp only at hSw); go_simp; (try with_reducible rfl))
                  (try simp only [Act.put, List.setIfInBounds_toArray, List.set_cons_zero, List.set_cons_succ])
                  refine wpAnyG_take 8 (v := ?_) (fun _ => trivial) (by simp only [List.getElem?_toArray, List.getElem?_cons_succ, List.getElem?_cons_zero]; rfl) (by kernel_rfl) (fun _ _ _ _ _ h => h) ⟨(by rfl), (by intro c h; cases h), ?_⟩ hHeld ?_
                  rotate_left
                  focus (intro wS hSw; (try replace hSw := HSF.out wS hSw); (try dsimp only at hSw); go_simp; (try with_reducible rfl))
                  (try simp only [Act.put, List.setIfInBounds_toArray, List.set_cons_zero, List.set_cons_succ])
                  refine wpAnyG_pure 9 (v := ?_) (fun _ => trivial) (by simp only [List.getElem?_toArray, List.getElem?_cons_succ, List.getElem?_cons_zero]; rfl) (by kernel_rfl) (fun _ _ _ _ _ h => h) ⟨(by rfl), (by intro c h; cases h), ?_⟩ hHeld ?_
                  rotate_left
                  focus (intro wS hSw; (try replace hSw := HSF.out wS hSw); (try dsimp only at hSw); go_simp; (try with_reducible rfl))
                  (try simp only [Act.put, List.setIfInBounds_toArray, List.set_cons_zero, List.set_cons_succ])
                  refine wpAnyG_pure 10 (v := ?_) (fun _ => trivial) (by simp only [List.getElem?_toArray, List.getElem?_cons_succ, List.getElem?_cons_zero]; rfl) (by kernel_rfl) (fun _ _ _ _ _ h => h) ⟨(by rfl), (by intro c h; cases h), ?_⟩ hHeld ?_
                  rotate_left
                  focus (intro wS hSw; (try replace hSw := HSF.out wS hSw); (try dsimp only at hSw); go_simp; (try with_reducible rfl))
                  (try simp only [Act.put, List.setIfInBounds_toArray, List.set_cons_zero, List.set_cons_succ])
                  refine wpAnyG_pure 11 (v := ?_) (fun _ => trivial) (by simp only [List.getElem?_toArray, List.getElem?_cons_succ, List.getElem?_cons_zero]; rfl) (by kernel_rfl) (fun _ _ _ _ _ h => h) ⟨(by rfl), (by intro c h; cases h), ?_⟩ hHeld ?_
                  rotate_left
                  focus (intro wS hSw; (try replace hSw := HSF.out wS hSw); (try dsimp only at hSw); go_simp; (try with_reducible rfl))
                  (try simp only [Act.put, List.setIfInBounds_toArray, List.set_cons_zero, List.set_cons_succ])
                  refine wpAnyG_pure 12 (v := ?_) (fun _ => trivial) (by simp only [List.getElem?_toArray, List.getElem?_cons_succ, List.getElem?_cons_zero]; rfl) (by kernel_rfl) (fun _ _ _ _ _ h => h) ⟨(by rfl), (by intro c h; cases h), ?_⟩ hHeld ?_
                  rotate_left
                  focus (intro wS hSw; (try replace hSw := HSF.out wS hSw); (try dsimp only at hSw); go_simp; (try with_reducible rfl))
                  (try simp only [Act.put, List.setIfInBounds_toArray, List.set_cons_zero, List.set_cons_succ])
                  refine wpAnyG_pure 13 (v := ?_) (fun _ => trivial) (by simp only [List.getElem?_toArray, List.getElem?_cons_succ, List.getElem?_cons_zero]; rfl) (by kernel_rfl) (fun _ _ _ _ _ h => h) ⟨(by rfl), (by intro c h; cases h), ?_⟩ hHeld ?_
                  rotate_left
                  focus (intro wS hSw; (try replace hSw := HSF.out wS hSw); (try dsimp only at hSw); go_simp; (try with_reducible rfl))
                  (try simp only [Act.put, List.setIfInBounds_toArray, List.set_cons_zero, List.set_cons_succ])
                  refine wpAnyG_take 14 (v := ?_) (fun _ => trivial) (by simp only [List.getElem?_toArray, List.getElem?_cons_succ, List.getElem?_cons_zero]; rfl) (by kernel_rfl) (fun _ _ _ _ _ h => h) ⟨(by rfl), (by intro c h; cases h), ?_⟩ hHeld ?_
                  rotate_left
                  focus (intro wS hSw; (try replace hSw := HSF.out wS hSw); (try dsimp only at hSw); go_simp; (try with_reducible rfl))
                  (try simp only [Act.put, List.setIfInBounds_toArray, List.set_cons_zero, List.set_cons_succ])
                  refine wpAnyG_pure 15 (v := ?_) (fun _ => trivial) (by simp only [List.getElem?_toArray, List.getElem?_cons_succ, List.getElem?_cons_zero]; rfl) (by kernel_rfl) (fun _ _ _ _ _ h => h) ⟨(by rfl), (by intro c h; cases h), ?_⟩ hHeld ?_
                  rotate_left
                  focus (intro wS hSw; (try replace hSw := HSF.out wS hSw); (try dsimp only at hSw); go_simp; (try with_reducible rfl))
                  (try simp only [Act.put, List.setIfInBounds_toArray, List.set_cons_zero, List.set_cons_succ])
                  refine wpAnyG_pure 16 (v := ?_) (fun _ => trivial) (by simp only [List.getElem?_toArray, List.getElem?_cons_succ, List.getElem?_cons_zero]; rfl) (by kernel_rfl) (fun _ _ _ _ _ h => h) ⟨(by rfl), (by intro c h; cases h), ?_⟩ hHeld ?_
                  rotate_left
                  focus (intro wS hSw; (try replace hSw := HSF.out wS hSw); (try dsimp only at hSw); go_simp; (try with_reducible rfl))
                  (try simp only [Act.put, List.setIfInBounds_toArray, List.set_cons_zero, List.set_cons_succ])
                  refine wpAnyG_take 17 (v := ?_) (fun _ => trivial) (by simp only [List.getElem?_toArray, List.getElem?_cons_succ, List.getElem?_cons_zero]; rfl) (by kernel_rfl) (fun _ _ _ _ _ h => h) ⟨(by rfl), (by intro c h; cases h), ?_⟩ hHeld ?_
                  rotate_left
                  focus (intro wS hSw; (try replace hSw := HSF.out wS hSw); (try dsimp only at hSw); go_simp; (try with_reducible rfl))
                  (try simp only [Act.put, List.setIfInBounds_toArray, List.set_cons_zero, List.set_cons_succ])
                  refine wpAnyG_pure 18 (v := ?_) (fun _ => trivial) (by simp only [List.getElem?_toArray, List.getElem?_cons_succ, List.getElem?_cons_zero]; rfl) (by kernel_rfl) (fun _ _ _ _ _ h => h) ⟨(by rfl), (by intro c h; cases h), ?_⟩ hHeld ?_
                  rotate_left
                  focus (intro wS hSw; (try replace hSw := HSF.out wS hSw); (try dsimp only at hSw); go_simp; (try with_reducible rfl))
                  (try simp only [Act.put, List.setIfInBounds_toArray, List.set_cons_zero, List.set_cons_succ])
                  refine wpAnyS_done (by kernel_rfl) ?_
                  clear hHeld
                  go_wp2_with fail
                  go_roundw
                  case rel => exact ⟨k + 1, j, by omega, by go_num, rfl, hfr.out, HB.out.trans ((B7.out.trans (BD8.out.mono B7.out.size)).mono hsz), (HY.out.below B7.out HY.out.lt).below BD8.out (HY.out.below B7.out HY.out.lt).lt⟩
                  case measure => simp [intOf]; omega
end Go.Proofs.YtfpehakllnkaeaaGreatDoor
namespace Go.Proofs.YtfpehakllnkaeaaGreatDoor
open Go.RowKit Go.IntWalk

def lenO : Value → Nat
  | .slice _ n _ => n
  | _ => 0
theorem toI_snoc (l : List Nat) (k : Nat) : toI (l ++ [k]) = toI l ++ [(k : Int)] := by simp [toI]
set_option maxRecDepth 100000 in
set_option maxHeartbeats 4000000 in
theorem rorder_any (A B : Option Addr) (c d : Nat) (lots : List Lt) (bs : List Bx) (x : Wt) (w : World) (hl : lots.length ≤ maxLen) (hb : bs.length ≤ 10000) (h1 : SlR w w.heap.size A lots) (h2 : SlR w w.heap.size B bs) (hc : CntNN bs) :
    Calls Tryz.prog 21 #[.slice A lots.length c, .slice B bs.length d, .agg #[.int .i64 x.1, .int .i64 x.2.1, .int .i64 x.2.2]] w fun e w' => ∃ v, e = .returned v ∧ OwnI w' w.heap.size v (toI (orderL lots bs x)) ∧ Below w.heap.size w w' := by
  have H1 := hid h1; have H2 := hid h2; have HL := hid hl
  have hle := orderL_len lots bs x
  have HM := hid (fun (i : Nat) (hi : i ∈ orderL lots bs x) => (orderL_mem.1 hi).1)
  have HF := hid (fun (k : Nat) (hk : k ≤ (orderL lots bs x).length) => order_first (lots := lots) (w := x) hc hk)
  have HCA := hid (fun (W : World) (hW : Below w.heap.size w W) (but : List Int) (C : Option Addr) (e0 : Nat) (hu : but.length ≤ maxLen) (h3 : SlR W W.heap.size C but) => rfirst_any A B C c d e0 lots bs x but W HL.out (by omega) hu ((H1.out.below hW).more hW.size) ((H2.out.below hW).more hW.size) h3)
  obtain ⟨wk, wc, wu⟩ := x
  simp only at *
  generalize orderL lots bs (wk, wc, wu) = S at *
  have B1 := hid (show Below w.heap.size w (w.alloc (Obj.cells #[.int .i64 wk, .int .i64 wc, .int .i64 wu] 42)) by (repeat (first | exact Below.refl _ _ | assumption | refine below_drewN ?_ _ | refine Below.drew ?_ | refine Below.alloc ?_ (by (try simp); (try omega)) _ | refine Below.setCell ?_ (by (try simp); (try omega)) _)))
  have Y1 := hid (Blk.new w 42 #[.int .i64 wk, .int .i64 wc, .int .i64 wu])
  clear h1 h2 hl hc
  go_enter Tryz.func21, Tryz.ntmps21
  go_wp2_with fail
  go_loopw [7] (fun ov wr => ∃ k : Nat, k ≤ S.length ∧ OwnI wr w.heap.size ov (toI (S.take k)) ∧ Below w.heap.size w wr ∧ Blk wr w.heap.size 42 #[.int .i64 wk, .int .i64 wc, .int .i64 wu]) (fun ov _ => S.length + 1 - lenO ov)
  case atStart => exact ⟨0, by omega, ⟨rfl, .inl ⟨rfl, rfl⟩⟩, B1.out, Y1.out⟩
  case round =>
    obtain ⟨k, hk, hO, hB, hY⟩ := hrel
    have hI : ∀ y ∈ toI (S.take k), I64 y := fun y hy => by
      unfold toI at hy
      obtain ⟨n, hn, rfl⟩ := List.mem_map.1 hy
      have := HM.out n (List.mem_of_mem_take hn)
      exact ⟨by omega, by omega⟩
    obtain ⟨Av, cv, rfl, _, hcm, hsl⟩ := hO.slr hI
    have HT := hid (show (toI (S.take k)).length = k by rw [toI_len, List.length_take, Nat.min_eq_left hk])
    have HFK := hid (HF.out k hk)
    have HSK := hid (fun (hlt : k < S.length) => show toI (S.take (k + 1)) = toI (S.take k) ++ [(S[k] : Int)] by rw [List.take_add_one, List.getElem?_eq_getElem hlt]; exact toI_snoc _ _)
    have HSE := hid (fun (h : k = S.length) => show toI (S.take k) = toI S by rw [h, List.take_length])
    unfold natsI at HFK
    generalize toI (S.take k) = T at *
    have HO := hid hO; have HB := hid hB; have HY := hid hY; have HSL := hid hsl
    have hkb : (T.length : Int) ≤ bs.length := by have := HT.out; omega
    have hTm : T.length ≤ maxLen := by have := HT.out; unfold maxLen; omega
    clear hO hB hY hsl hI hcm
    have y0 := HY.out.cell 0; have y1 := HY.out.cell 1; have y2 := HY.out.cell 2; have yz := HY.out.lt
    simp at y0 y1 y2
    have HCC := hid (HCA.out wr HB.out T Av cv hTm HSL.out)
    clear hTm
    go_wp2_with fail
    refine HCC.out.mono ?_
    rintro e w5 ⟨r, rfl, hF, hB5⟩
    have O5 := hid (show OwnI w5 w.heap.size (.slice Av T.length cv) T from own_kept HO.out (fun q cs hv hb => hb.below hB5 hb.lt))
    have Y5 := hid (HY.out.below hB5 HY.out.lt)
    have B5 := hid (HB.out.trans (hB5.mono HB.out.size))
    have hr := hF.uniq HFK.out
    clear HO HB HY HSL HCC hF hB5 y0 y1 y2 yz HCA HFK
    by_cases hlt : k < S.length
    case neg =>
      rw [dif_neg hlt] at hr
      subst hr
      have hfin := hid (HSE.out (by omega))
      clear HSK HSE
      as_aux_lemma =>
        go_wp2_with fail
        go_ret
        exact ⟨_, rfl, by rw [← hfin.out]; exact O5.out, B5.out⟩
    case pos =>
      rw [dif_pos hlt] at hr
      have hsk := hid (HSK.out hlt)
      have hb2 := HM.out _ (List.getElem_mem hlt)
      generalize S[k] = q at *
      subst hr
      clear HSK HSE
      have hq0 : ¬ (q : Int) < 0 := by omega
      have hcell := hid (show ∀ (j : Nat) (u : Value), ([(q : Int)].map (Value.int .i64))[j]? = some u → (w5.alloc (Obj.cells #[.int .i64 (q : Int)] 3)).cell? ((⟨w5.heap.size, 0, none⟩ : Addr).add j) = some u from cell_one_new w5 _ _)
      have O6 := hid (O5.out.alloc (Obj.cells #[.int .i64 (q : Int)] 3))
      have BB6 := hid (B5.out.alloc B5.out.size (Obj.cells #[.int .i64 (q : Int)] 3))
      have Y6 := hid (Y5.out.alloc (Obj.cells #[.int .i64 (q : Int)] 3))
      have hlw := hid (show T.length + [(q : Int)].length ≤ 17592186044416 by have := HT.out; simp; omega)
      have hsep := hid (fun p (e : (Value.slice Av T.length cv).ownBlock = some p) => (own_blk O6.out p e).1)
      have hne := hid (show some w.heap.size ≠ (Value.slice Av T.length cv).ownBlock from fun e => own_blk_ne O6.out Y6.out (by decide) e.symm)
      have hbase := hid BB6.out.size
      have hkS : k + 1 ≤ S.length := hlt
      clear hb2 O5 B5 Y5
      as_aux_lemma =>
        go_wp2_with (at_builtin; refine wp_appI _ rfl (.tmp 21) (.tmp 23) rfl w.heap.size _ _ rfl O6.out ⟨w5.heap.size, 0, none⟩ 1 [(q : Int)] rfl hcell.out hlw.out hbase.out ?_; intro v7 w7 ho7 hg7 _; have O7 := hid ho7; have BB7 := hid (BB6.out.grown hg7 BB6.out.size hsep.out); have Y7 := hid (Y6.out.grown hg7 hne.out); clear ho7 hg7)
        go_roundw
        case rel => exact ⟨k + 1, hkS, by rw [hsk.out]; exact O7.out, BB7.out, Y7.out⟩
        case measure =>
          obtain ⟨A7, c7, rfl⟩ := own_form O7.out
          simp [lenO]
          have := HT.out
          omega
set_option maxRecDepth 100000 in
set_option maxHeartbeats 4000000 in
theorem rexpired_any (A : Option Addr) (c : Nat) (lots : List Lt) (t : Int) (w : World) (hl : lots.length ≤ 100000) (h : SlR w w.heap.size A lots) :
    Calls Tryz.prog 13 #[.slice A lots.length c, .int .i64 t] w fun e w' => ∃ v, e = .returned v ∧ OwnI w' w.heap.size v (toI (expK lots t lots.length)) ∧ Below w.heap.size w w' := by
  have H1 := hid h
  clear h
  go_enter Tryz.func13, Tryz.ntmps13
  go_wp2_with fail
  go_loopw [5, 6] (fun ov iv wr => ∃ (k : Nat) (v : Value), k ≤ lots.length ∧ iv = .int .i64 k ∧ v = ov ∧ OwnI wr w.heap.size v (toI (expK lots t k)) ∧ Below w.heap.size w wr) (fun _ iv _ => lots.length - (intOf iv).toNat)
  case atStart => exact ⟨0, .slice none 0 0, by omega, rfl, rfl, ⟨rfl, .inl ⟨rfl, rfl⟩⟩, Below.refl _ _⟩
  case round =>
    obtain ⟨k, v, hk, rfl, rfl, hO, hB⟩ := hrel
    have HO := hid hO; have HB := hid hB
    clear hO hB
    by_cases hlt : k < lots.length
    case neg =>
      obtain rfl : k = lots.length := by omega
      obtain ⟨Av, cv, rfl⟩ := own_form HO.out
      go_wp2_with fail
      go_ret
      exact ⟨_, rfl, HO.out, HB.out⟩
    have hltI : (k : Int) < lots.length := by omega
    have HCS := hid (expK_succ lots t k)
    have hge : lots.getD k (0, 0, false) = lots[k] := by simp [hlt]
    rw [hge] at HCS
    obtain ⟨b, off, rfl, hbz, c0, c1, c2, -⟩ := H1.out.lt hlt
    replace c1 := (bcell HB.out b _ hbz).trans c1
    have hz : b < wr.heap.size := by have := HB.out.size; omega
    clear hge c0 c2
    generalize lots[k] = xb at *
    obtain ⟨x0, x1, x2⟩ := xb
    simp only at c1
    by_cases hx1 : x1 < t
    case neg =>
      have hcs := hid (show expK lots t (k + 1) = expK lots t k by rw [HCS.out]; simp [hx1])
      as_aux_lemma =>
        go_wp2_with fail
        go_roundw
        case rel => exact ⟨k + 1, v, by omega, by go_num, rfl, by rw [hcs.out]; exact HO.out, HB.out⟩
        case measure => simp [intOf]; omega
    have hcs := hid (show toI (expK lots t (k + 1)) = toI (expK lots t k) ++ [(k : Int)] by rw [HCS.out]; simp [hx1, toI])
    have hcell := hid (show ∀ (j : Nat) (u : Value), ([(k : Int)].map (Value.int .i64))[j]? = some u → (wr.alloc (Obj.cells #[.int .i64 (k : Int)] 3)).cell? ((⟨wr.heap.size, 0, none⟩ : Addr).add j) = some u from cell_one_new wr _ _)
    have O6 := hid (HO.out.alloc (Obj.cells #[.int .i64 (k : Int)] 3))
    have BB6 := hid (HB.out.alloc HB.out.size (Obj.cells #[.int .i64 (k : Int)] 3))
    have hsep := hid (fun q (e : v.ownBlock = some q) => (own_blk HO.out q e).1)
    have hlw := hid (show (toI (expK lots t k)).length + [(k : Int)].length ≤ 17592186044416 by
      have : (expK lots t k).length ≤ k := by
        have := List.length_filter_le (fun i => decide ((lots.getD i (0, 0, false)).2.1 < t)) (List.range k)
        simpa [expK] using this
      rw [toI_len]; simp; omega)
    have hbase := hid BB6.out.size
    as_aux_lemma =>
      go_wp2_with (at_builtin; refine wp_appI _ rfl (.tmp 20) (.tmp 22) rfl w.heap.size v _ rfl O6.out ⟨wr.heap.size, 0, none⟩ 1 [(k : Int)] rfl hcell.out hlw.out hbase.out ?_; intro v7 w7 ho7 hg7 _; have O7 := hid ho7; have BB7 := hid (BB6.out.grown hg7 BB6.out.size hsep.out); clear ho7 hg7)
      go_roundw
      case rel => exact ⟨k + 1, v7, by omega, by go_num, rfl, by rw [hcs.out]; exact O7.out, BB7.out⟩
      case measure => simp [intOf]; omega
end Go.Proofs.YtfpehakllnkaeaaGreatDoor
