
/- Stock: the plain law of StockPicks. -/
import Derived.Test.YtmffdhfpfijocaaStkV
set_option linter.unusedSimpArgs false
set_option linter.unusedVariables false
namespace Go.Proofs.Ytmffdhfpfijocaa
open Go.RowKit Go.IntWalk

abbrev z3 : Bx := (0, 0, 0)
/-- What a list of takes takes from box i. -/
def takenL (ts : List Tk) (i : Int) : Int := sumI ((ts.filter (fun t => decide (t.1 = i))).map (fun t => t.2))
theorem takenL_nil (i : Int) : takenL [] i = 0 := rfl
theorem takenL_cons (t : Tk) (ts : List Tk) (i : Int) : takenL (t :: ts) i = (if t.1 = i then t.2 else 0) + takenL ts i := by
  unfold takenL
  by_cases h : t.1 = i <;> simp [h, sumI]
theorem takenL_app (a b : List Tk) (i : Int) : takenL (a ++ b) i = takenL a i + takenL b i := by
  unfold takenL
  rw [List.filter_append, List.map_append, sumI_app]
theorem takenL_take {ts : List Tk} {i : Int} {k : Nat} (h : k < ts.length) : takenL (ts.take (k + 1)) i = takenL (ts.take k) i + if ts[k].1 = i then ts[k].2 else 0 := by
  rw [List.take_add_one, List.getElem?_eq_getElem h, Option.toList_some, takenL_app, takenL_cons, takenL_nil, Int.add_zero]
def GoodT (n : Nat) (ts : List Tk) : Prop := ∀ t ∈ ts, 0 ≤ t.1 ∧ t.1 < n ∧ 1 ≤ t.2
theorem takenL_nonneg {n : Nat} : ∀ {ts : List Tk}, GoodT n ts → ∀ i, 0 ≤ takenL ts i
  | [], _, i => by simp [takenL_nil]
  | t :: ts, h, i => by
    rw [takenL_cons]
    have := takenL_nonneg (fun x hx => h x (List.mem_cons_of_mem _ hx)) i
    have := (h t (List.mem_cons_self ..)).2.2
    split <;> omega
theorem takenL_part {n : Nat} {ts : List Tk} (h : GoodT n ts) (i : Int) (k : Nat) : 0 ≤ takenL (ts.take k) i ∧ takenL (ts.take k) i ≤ takenL ts i := by
  have h1 := takenL_nonneg (ts := ts.take k) (fun x hx => h x (List.mem_of_mem_take hx)) i
  have h2 := takenL_nonneg (ts := ts.drop k) (fun x hx => h x (List.mem_of_mem_drop hx)) i
  have h3 := takenL_app (ts.take k) (ts.drop k) i
  rw [List.take_append_drop] at h3
  omega
theorem subAt_len (bs : List Bx) (i : Nat) (n : Int) : (subAt bs i n).length = bs.length := by simp [subAt]
theorem subAt_at {bs : List Bx} {k : Nat} (hk : k < bs.length) (n : Int) (i : Nat) : (subAt bs k n).getD i z3 = if i = k then ((bs.getD k z3).1, (bs.getD k z3).2.1 - n, (bs.getD k z3).2.2) else bs.getD i z3 := by
  unfold subAt
  by_cases e : i = k
  · subst e; simp [hk, z3]
  · simp [e, List.getElem?_set_ne (fun e' => e e'.symm), z3]
structure Pk (bs : List Bx) (ts : List Tk) (l : List Bx) : Prop where
  len : l.length = bs.length
  at_ : ∀ i, i < bs.length → l.getD i z3 = ((bs.getD i z3).1, (bs.getD i z3).2.1 - takenL ts i, (bs.getD i z3).2.2)
  le : ∀ i, i < bs.length → 0 ≤ (bs.getD i z3).2.1 → takenL ts i ≤ (bs.getD i z3).2.1
theorem pick_pk : ∀ {ts : List Tk} {bs l : List Bx}, GoodT bs.length ts → pickGo ts bs = some l → Pk bs ts l
  | [], bs, l, _, h => by
    simp only [pickGo, Option.some.injEq] at h
    subst h
    exact ⟨rfl, fun i hi => by simp [takenL_nil], fun i hi h0 => by simpa [takenL_nil] using h0⟩
  | t :: ts, bs, l, hg, h => by
    obtain ⟨h0, h1, h2⟩ := hg t (List.mem_cons_self ..)
    obtain ⟨t1, t2⟩ := t
    simp only at h0 h1 h2
    obtain ⟨k, rfl⟩ := Int.eq_ofNat_of_zero_le h0
    have hk : k < bs.length := by omega
    simp only [pickGo, Int.toNat_natCast] at h
    split at h
    · cases h
    rename_i hc
    have hgg : GoodT (subAt bs k t2).length ts := by rw [subAt_len]; exact fun x hx => hg x (List.mem_cons_of_mem _ hx)
    have ih := pick_pk hgg h
    have hlen := ih.len
    rw [subAt_len] at hlen
    have hca : cntAt bs k = (bs.getD k z3).2.1 := rfl
    refine ⟨hlen, fun i hi => ?_, fun i hi hn => ?_⟩
    · rw [ih.at_ i (by rw [subAt_len]; exact hi), subAt_at hk, takenL_cons]
      by_cases e : i = k
      · subst e
        simp only [if_true]
        have : (bs.getD i z3).2.1 - t2 - takenL ts i = (bs.getD i z3).2.1 - (t2 + takenL ts i) := by omega
        rw [this]
      · have e2 : ¬ (k : Int) = (i : Int) := by omega
        rw [if_neg e, if_neg e2, Int.zero_add]
    · have h5 := ih.le i (by rw [subAt_len]; exact hi)
      rw [subAt_at hk] at h5
      rw [takenL_cons]
      by_cases e : i = k
      · subst e
        simp only [if_true] at h5 ⊢
        rw [hca] at hc
        have := h5 (by omega)
        omega
      · have e2 : ¬ (k : Int) = (i : Int) := by omega
        rw [if_neg e] at h5
        rw [if_neg e2]
        have := h5 hn
        omega
theorem pickGo_app : ∀ (a b : List Tk) (bs : List Bx), pickGo (a ++ b) bs = (pickGo a bs).bind (pickGo b)
  | [], b, bs => rfl
  | t :: a, b, bs => by
    simp only [List.cons_append, pickGo]
    split
    · rfl
    · exact pickGo_app a b _
theorem pickL_ok {bs : List Bx} {ts : List Tk} (h : (pickL bs ts).2 = 0) : GoodT bs.length ts ∧ pickGo ts bs = some (pickL bs ts).1 := by
  unfold pickL at h ⊢
  split at h
  · exact absurd h (by decide)
  rename_i h1
  split at h
  · exact absurd h (by decide)
  rename_i h2
  rw [if_neg h1, if_neg h2]
  cases hp : pickGo ts bs with
  | none => rw [hp] at h; exact absurd h (by decide)
  | some l =>
    refine ⟨fun t ht => ?_, rfl⟩
    simp only [List.any_eq_true, not_exists, not_and, Bool.not_eq_true, btw, Bool.not_eq_false', Bool.and_eq_true, decide_eq_true_eq, decide_eq_false_iff_not] at h1 h2
    have a1 := h1 t ht
    have a2 := h2 t ht
    omega
theorem pickL_bad {bs : List Bx} {ts : List Tk} (h : (pickL bs ts).2 ≠ 0) : (pickL bs ts).1 = [] := by
  unfold pickL at h ⊢
  split
  · rfl
  rename_i h1
  rw [if_neg h1] at h
  split
  · rfl
  rename_i h2
  rw [if_neg h2] at h
  cases hp : pickGo ts bs with
  | none => rfl
  | some l => rw [hp] at h; exact absurd rfl h
theorem pickL_twice {bs : List Bx} {a b : List Tk} (h : (pickL bs a).2 = 0) : pickL (pickL bs a).1 b = pickL bs (a ++ b) := by
  obtain ⟨hg, hp⟩ := pickL_ok h
  have hl := (pick_pk hg hp).len
  have e1 : a.any (fun x => !btw x.1 0 ((bs.length : Int) - 1)) = false := by
    rw [List.any_eq_false]
    intro t ht
    obtain ⟨h0, h1, h2⟩ := hg t ht
    have : btw t.1 0 ((bs.length : Int) - 1) = true := by simp only [btw, Bool.and_eq_true, decide_eq_true_eq]; omega
    simp [this]
  have e2 : a.any (fun x => decide (x.2 < 1)) = false := by
    rw [List.any_eq_false]
    intro t ht
    obtain ⟨h0, h1, h2⟩ := hg t ht
    simp; omega
  generalize (pickL bs a).1 = l at *
  unfold pickL
  rw [hl, List.any_append, List.any_append, e1, e2, Bool.false_or, Bool.false_or, pickGo_app, hp]
  rfl
/-- What the takes take from the boxes that fit. -/
def fitK (lots : List Lt) (bs : List Bx) (w : Wt) (ts : List Tk) : Nat → Int
  | 0 => 0
  | m + 1 => fitK lots bs w ts m + if hasF lots w (bs.getD m z3) then takenL ts m else 0
theorem fitK_bd {lots : List Lt} {bs : List Bx} {w : Wt} {ts : List Tk} {l : List Bx} (hp : Pk bs ts l) (hg : GoodT bs.length ts) (hc : CntOK bs) : ∀ m, m ≤ bs.length → 0 ≤ fitK lots bs w ts m ∧ fitK lots bs w ts m ≤ 20000 * m := by
  intro m
  induction m with
  | zero => intro _; simp [fitK]
  | succ m ih =>
    intro hm
    have h0 := ih (by omega)
    have h1 := takenL_nonneg hg m
    have h2 : bs.getD m z3 = bs[m] := by simp [show m < bs.length by omega]
    have h3 := hc _ (List.getElem_mem (show m < bs.length by omega))
    have h4 := hp.le m (by omega) (by rw [h2]; exact h3.1)
    rw [h2] at h4
    simp only [fitK]
    split <;> constructor <;> omega
theorem has_cnt (lots : List Lt) (w : Wt) (a b c d e : Int) : hasF lots w (a, b, c) = hasF lots w (a, d, e) := rfl
theorem pk_supply {lots : List Lt} {bs : List Bx} {w : Wt} {ts : List Tk} {l : List Bx} (hp : Pk bs ts l) : supplyL lots l w = supplyL lots bs w - fitK lots bs w ts bs.length := by
  have hl := hp.len
  have key : ∀ n, n ≤ bs.length → supplyL lots (l.take n) w = supplyL lots (bs.take n) w - fitK lots bs w ts n := by
    intro n
    induction n with
    | zero => intro _; simp [supplyL, fitK, sumI]
    | succ n ih =>
      intro hn
      have := ih (by omega)
      have e := hp.at_ n (by omega)
      have e1 : bs.getD n z3 = bs[n] := by simp [show n < bs.length by omega]
      have e2 : l.getD n z3 = l[n]'(by omega) := by simp [show n < l.length by omega]
      rw [e1, e2] at e
      rw [supplyL_take (by omega), supplyL_take (by omega), this, fitK, e1, e]
      rw [has_cnt lots w _ _ _ bs[n].2.1 bs[n].2.2]
      show _ + (if hasF lots w bs[n] = true then bs[n].2.1 - takenL ts n else 0) = _
      split <;> omega
  have := key bs.length (Nat.le_refl _)
  rwa [List.take_length, List.take_of_length_le (by omega)] at this
/-- A right stock: each box's facts. -/
structure BoxOK (ks : List Kd) (lots : List Lt) (b : Bx) : Prop where
  tare : 0 ≤ b.2.2 ∧ b.2.2 ≤ 1000000
  lot : -1 ≤ b.1 ∧ b.1 < lots.length
  cnt : 0 ≤ b.2.1 ∧ b.2.1 ≤ 20000
  free : 0 ≤ b.1 ∨ b.2.1 = 0
  kind : 0 ≤ b.1 → 0 ≤ (lotAt lots b).1 ∧ (lotAt lots b).1 < ks.length ∧ 1 ≤ (ks.getD (lotAt lots b).1.toNat (ByteArray.empty, 0)).2 ∧ (ks.getD (lotAt lots b).1.toNat (ByteArray.empty, 0)).2 ≤ 10000
theorem names_kind : ∀ {seen : List ByteArray} {ks : List Kd}, namesF seen ks = true → ks.all kindF = true
  | _, [], _ => rfl
  | seen, k :: r, h => by
    simp only [namesF, Bool.and_eq_true] at h
    rw [List.all_cons, h.1.1, names_kind h.2]
    rfl
theorem right_kinds {ks : List Kd} {lots : List Lt} {bs : List Bx} (h : rightS ks lots bs = true) : ks.all kindF = true ∧ lots.all (lotF ks.length) = true ∧ bs.all (boxF lots.length) = true := by
  simp only [rightS, kindsF, Bool.and_eq_true] at h
  exact ⟨names_kind h.1.1.1.2.1, h.1.1.2, h.1.2⟩
theorem right_box {ks : List Kd} {lots : List Lt} {bs : List Bx} (h : rightS ks lots bs = true) {b : Bx} (hb : b ∈ bs) : BoxOK ks lots b := by
  obtain ⟨h1, h2, h3⟩ := right_kinds h
  have hb' := List.all_eq_true.1 h3 b hb
  simp only [boxF, btw, Bool.and_eq_true, Bool.or_eq_true, decide_eq_true_eq] at hb'
  refine ⟨by omega, by omega, by omega, by omega, fun h0 => ?_⟩
  have hlt : b.1.toNat < lots.length := by omega
  have hl := List.all_eq_true.1 h2 _ (List.getElem_mem hlt)
  have e1 : lotAt lots b = lots[b.1.toNat] := by simp [lotAt, hlt]
  rw [e1]
  simp only [lotF, btw, Bool.and_eq_true, decide_eq_true_eq] at hl
  have hkt : lots[b.1.toNat].1.toNat < ks.length := by omega
  have hk := List.all_eq_true.1 h1 _ (List.getElem_mem hkt)
  have e2 : ks.getD lots[b.1.toNat].1.toNat (ByteArray.empty, 0) = ks[lots[b.1.toNat].1.toNat] := by simp [hkt]
  rw [e2]
  simp only [kindF, btw, Bool.and_eq_true, decide_eq_true_eq] at hk
  omega
theorem boxF_of {ks : List Kd} {lots : List Lt} {b : Bx} (h : BoxOK ks lots b) {n : Int} (h0 : 0 ≤ n) (h1 : n ≤ b.2.1) : boxF lots.length (b.1, b.2.1 - n, b.2.2) = true := by
  have := h.tare; have := h.lot; have := h.cnt; have := h.free
  simp only [boxF, btw, Bool.and_eq_true, Bool.or_eq_true, decide_eq_true_eq]
  omega
/-- A unit's weight, of the lot of a box. -/
def kwF (ks : List Kd) (lots : List Lt) (b : Bx) : Int := (ks.getD (lotAt lots b).1.toNat (ByteArray.empty, 0)).2
theorem weight_less {ks : List Kd} {lots : List Lt} {b : Bx} (h : BoxOK ks lots b) {n : Int} (h0 : 0 ≤ n) (h1 : n ≤ b.2.1) : weightF ks lots b - weightF ks lots (b.1, b.2.1 - n, b.2.2) = n * (if 0 < n then kwF ks lots b else 0) := by
  have hf := h.free; have hcn := h.cnt
  unfold weightF kwF
  have e : lotAt lots (b.1, b.2.1 - n, b.2.2) = lotAt lots b := rfl
  simp only [e]
  by_cases hn : b.1 < 0
  · have : n = 0 := by omega
    subst this
    simp [hn]
  · simp only [hn, if_false]
    generalize (ks.getD (lotAt lots b).1.toNat (ByteArray.empty, 0)).2 = q
    by_cases hz : 0 < n
    · rw [if_pos hz, Int.sub_mul]; omega
    · have : n = 0 := by omega
      subst this
      simp
theorem weight_bd {ks : List Kd} {lots : List Lt} {b : Bx} (h : BoxOK ks lots b) {n : Int} (h0 : 0 ≤ n) (h1 : n ≤ b.2.1) : 0 ≤ weightF ks lots (b.1, b.2.1 - n, b.2.2) ∧ weightF ks lots (b.1, b.2.1 - n, b.2.2) ≤ 201000000 := by
  have := h.tare; have hcn := h.cnt
  unfold weightF
  have e : lotAt lots (b.1, b.2.1 - n, b.2.2) = lotAt lots b := rfl
  simp only [e]
  split
  · omega
  · rename_i hn
    have hk := (h.kind (by omega)).2.2
    generalize (ks.getD (lotAt lots b).1.toNat (ByteArray.empty, 0)).2 = q at *
    have h2 : 0 ≤ (b.2.1 - n) * q := Int.mul_nonneg (by omega) (by omega)
    have h3 : (b.2.1 - n) * q ≤ 20000 * 10000 := Int.mul_le_mul (by omega) (by omega) (by omega) (by omega)
    omega
end Go.Proofs.Ytmffdhfpfijocaa
