
/- Lease, plain: a desk's encoding, and what Read makes of a string. -/
import Derived.Test.YtappgjdnfllblaaDoorLzB
import Derived.Test.YtappgjdnfllblaaDoorLeaR
set_option linter.unusedSimpArgs false
set_option linter.unusedVariables false
namespace Go.Proofs.YtappgjdnfllblaaDoor
open Go.RowKit Go.IntWalk
/-- A zone's part of the encoding. -/
def encZ (d : LDk) (k : Nat) : List UInt8 := ((numsL d k).map encI).flatten
def encDh (me : Int) (home : List Int) : List UInt8 := encI me ++ encL (home.map encI)
/-- A desk's encoding. -/
def encDk (d : LDk) : List UInt8 := encDh d.me d.home ++ ((List.range d.home.length).map (encZ d)).flatten
def rNs (s : RS) : List Int × RS := match listL fI s.1 with
  | some (xs, l) => (xs, l, s.2)
  | none => ([], [], true)
def NumB (n : Int) : Prop := 0 ≤ n ∧ n ≤ 2199023255552
instance (n : Int) : Decidable (NumB n) := by unfold NumB; exact inferInstance
/-- What Read does with one zone. -/
def stepR (d : LDk) (k : Nat) (s : RS) : Option (LDk × RS) :=
  if d.home.getD k 0 = d.me then
    if ((r3 s).1.2.2 = 0 ∨ (r3 s).1.2.2 = 1) ∧ NumB (r3 s).1.1 ∧ NumB (r3 s).1.2.1 then some (d.setH k ((r3 s).1.1, (r3 s).1.2.1, decide ((r3 s).1.2.2 = 1)), (r3 s).2) else none
  else if NumB (r4 s).1.1 ∧ NumB (r4 s).1.2.1 ∧ NumB (r4 s).1.2.2.1 ∧ NumB (r4 s).1.2.2.2 then some (d.setG k (r4 s).1, (r4 s).2) else none
def runR (d : LDk) (s : RS) : Nat → Option (LDk × RS)
  | 0 => some (d, s)
  | k + 1 => match runR d s k with
    | none => none
    | some x => stepR x.1 k x.2
/-- What Read returns. -/
def readDk (s : List UInt8) : Option LDk := match newDk (rI (s, false)).1 (rNs (rI (s, false)).2).1 with
  | none => none
  | some d => match runR d (rNs (rI (s, false)).2).2 d.home.length with
    | none => none
    | some x => if x.2 = ([], false) then some x.1 else none
theorem rNs_ok {s : RS} (h : RSok s) : RSok (rNs s).2 := by
  intro hb
  unfold rNs at hb ⊢
  split at hb
  · rename_i v l hn
    have := h hb
    rw [this] at hn
    simp [listL, numL, Lib.indexByte] at hn
  · rename_i hn
    simp [hn]
theorem rNs_enc (xs : List Int) (h : ∀ x ∈ xs, I64 x) (hn : xs.length ≤ 1000000000000) (r : List UInt8) (b : Bool) : rNs (encL (xs.map encI) ++ r, b) = (xs, r, b) := by
  unfold rNs
  rw [listL_enc fI encI xs r hn (fun x hx r => intL_enc x (h x hx) r)]
/-- The numbers of a desk. -/
def LDk.In (d : LDk) (M : Int) : Prop := ∀ z, (0 ≤ (d.hs z).1 ∧ (d.hs z).1 ≤ M ∧ 0 ≤ (d.hs z).2.1 ∧ (d.hs z).2.1 ≤ M) ∧ (0 ≤ (d.gs z).1 ∧ (d.gs z).1 ≤ M ∧ 0 ≤ (d.gs z).2.1 ∧ (d.gs z).2.1 ≤ M ∧ 0 ≤ (d.gs z).2.2.1 ∧ (d.gs z).2.2.1 ≤ M ∧ 0 ≤ (d.gs z).2.2.2 ∧ (d.gs z).2.2.2 ≤ M)
theorem LDk.In.mono {d : LDk} {M M' : Int} (h : d.In M) (hM : M ≤ M') : d.In M' := fun z => by
  obtain ⟨⟨a1, a2, a3, a4⟩, b1, b2, b3, b4, b5, b6, b7, b8⟩ := h z
  exact ⟨⟨a1, by omega, a3, by omega⟩, b1, by omega, b3, by omega, b5, by omega, b7, by omega⟩
/-- The desk as far as it is read. -/
def LDk.cut (d : LDk) (k : Nat) : LDk := { d with hs := fun z => if z < (k : Int) then d.hs z else (0, 0, false), gs := fun z => if z < (k : Int) then d.gs z else (0, 0, 0, 0) }
theorem LDk.ext_ {d e : LDk} (h1 : d.me = e.me) (h2 : d.home = e.home) (h3 : ∀ z, d.hs z = e.hs z) (h4 : ∀ z, d.gs z = e.gs z) : d = e := by
  obtain ⟨a, b, c, f⟩ := d
  obtain ⟨a', b', c', f'⟩ := e
  simp only at h1 h2 h3 h4
  subst h1 h2
  have : c = c' := funext h3
  subst this
  have : f = f' := funext h4
  subst this
  rfl
theorem LDk.cut0 {d : LDk} (h : d.Ok) : d.cut 0 = newD d.me d.home := by
  refine LDk.ext_ rfl rfl (fun z => ?_) (fun z => ?_)
  · show (if z < ((0 : Nat) : Int) then d.hs z else (0, 0, false)) = (0, 0, false)
    by_cases hz : z < ((0 : Nat) : Int)
    · rw [if_pos hz]; exact h.hh z (by simp [LDk.hp]; omega)
    · rw [if_neg hz]
  · show (if z < ((0 : Nat) : Int) then d.gs z else (0, 0, 0, 0)) = (0, 0, 0, 0)
    by_cases hz : z < ((0 : Nat) : Int)
    · rw [if_pos hz]; exact h.gg z (by simp [LDk.gp]; omega)
    · rw [if_neg hz]
theorem LDk.cut_all {d : LDk} (h : d.Ok) : d.cut d.home.length = d := by
  refine LDk.ext_ rfl rfl (fun z => ?_) (fun z => ?_)
  · show (if z < (d.home.length : Int) then d.hs z else (0, 0, false)) = d.hs z
    by_cases hz : z < (d.home.length : Int)
    · rw [if_pos hz]
    · rw [if_neg hz]; exact (h.hh z (by simp [LDk.hp]; omega)).symm
  · show (if z < (d.home.length : Int) then d.gs z else (0, 0, 0, 0)) = d.gs z
    by_cases hz : z < (d.home.length : Int)
    · rw [if_pos hz]
    · rw [if_neg hz]; exact (h.gg z (by simp [LDk.gp]; omega)).symm
theorem LDk.cut_H {d : LDk} (h : d.Ok) {k : Nat} (hp : d.hp k = true) : (d.cut k).setH k (d.hs k) = d.cut (k + 1) := by
  have hg : d.gp k = false := by simp only [LDk.hp, LDk.gp, decide_eq_true_eq, decide_eq_false_iff_not] at hp ⊢; intro h; exact h.2.2 hp.2.2
  refine LDk.ext_ rfl rfl (fun z => ?_) (fun z => ?_)
  · show (if z = (k : Int) then d.hs k else if z < (k : Int) then d.hs z else (0, 0, false)) = if z < ((k + 1 : Nat) : Int) then d.hs z else (0, 0, false)
    by_cases e : z = (k : Int)
    · subst e; rw [if_pos rfl, if_pos (by omega)]
    · rw [if_neg e]
      have : (z < (k : Int)) ↔ (z < ((k + 1 : Nat) : Int)) := by omega
      simp only [this]
  · show (if z < (k : Int) then d.gs z else (0, 0, 0, 0)) = if z < ((k + 1 : Nat) : Int) then d.gs z else (0, 0, 0, 0)
    by_cases e : z = (k : Int)
    · subst e; rw [if_neg (by omega), if_pos (by omega)]; exact (h.gg _ hg).symm
    · have : (z < (k : Int)) ↔ (z < ((k + 1 : Nat) : Int)) := by omega
      simp only [this]
theorem LDk.cut_G {d : LDk} (h : d.Ok) {k : Nat} (hg : d.gp k = true) : (d.cut k).setG k (d.gs k) = d.cut (k + 1) := by
  have hp : d.hp k = false := by simp only [LDk.hp, LDk.gp, decide_eq_true_eq, decide_eq_false_iff_not] at hg ⊢; intro h; exact hg.2.2 h.2.2
  refine LDk.ext_ rfl rfl (fun z => ?_) (fun z => ?_)
  · show (if z < (k : Int) then d.hs z else (0, 0, false)) = if z < ((k + 1 : Nat) : Int) then d.hs z else (0, 0, false)
    by_cases e : z = (k : Int)
    · subst e; rw [if_neg (by omega), if_pos (by omega)]; exact (h.hh _ hp).symm
    · have : (z < (k : Int)) ↔ (z < ((k + 1 : Nat) : Int)) := by omega
      simp only [this]
  · show (if z = (k : Int) then d.gs k else if z < (k : Int) then d.gs z else (0, 0, 0, 0)) = if z < ((k + 1 : Nat) : Int) then d.gs z else (0, 0, 0, 0)
    by_cases e : z = (k : Int)
    · subst e; rw [if_pos rfl, if_pos (by omega)]
    · rw [if_neg e]
      have : (z < (k : Int)) ↔ (z < ((k + 1 : Nat) : Int)) := by omega
      simp only [this]
theorem hp_lt {d : LDk} {k : Nat} (hk : k < d.home.length) : d.hp k = decide (d.home.getD k 0 = d.me) := by
  simp [LDk.hp, hk]
theorem gp_lt {d : LDk} {k : Nat} (hk : k < d.home.length) : d.gp k = !decide (d.home.getD k 0 = d.me) := by
  simp only [LDk.gp]
  rw [← decide_not]
  congr 1
  simp [hk]
theorem stepR_enc {d : LDk} (h : d.Ok) (hi : d.In 2199023255552) {k : Nat} (hk : k < d.home.length) (r : List UInt8) (b : Bool) : stepR (d.cut k) k (encZ d k ++ r, b) = some (d.cut (k + 1), r, b) := by
  obtain ⟨⟨a1, a2, a3, a4⟩, b1, b2, b3, b4, b5, b6, b7, b8⟩ := hi k
  unfold stepR
  by_cases hm : d.home.getD k 0 = d.me
  · have hp : d.hp k = true := by rw [hp_lt hk, hm]; simp
    rw [if_pos (show (d.cut k).home.getD k 0 = (d.cut k).me from hm)]
    have e1 : encZ d k = enc3 ((d.hs k).1, (d.hs k).2.1, if (d.hs k).2.2 then 1 else 0) := by
      unfold encZ numsL enc3
      rw [hp]; simp
    have hI : P3I ((d.hs k).1, (d.hs k).2.1, if (d.hs k).2.2 then 1 else 0) := ⟨⟨by simp only; omega, by simp only; omega⟩, ⟨by simp only; omega, by simp only; omega⟩, by simp only [I64]; split <;> omega⟩
    rw [e1, r3_enc _ hI]
    simp only
    rw [if_pos ⟨by split <;> simp, ⟨a1, a2⟩, a3, a4⟩]
    have e2 : decide ((if (d.hs k).2.2 = true then (1 : Int) else 0) = 1) = (d.hs k).2.2 := by cases (d.hs k).2.2 <;> simp
    rw [e2]
    rw [show ((d.hs (k : Int)).1, (d.hs (k : Int)).2.1, (d.hs (k : Int)).2.2) = d.hs k from rfl, LDk.cut_H h hp]
  · have hp : d.hp k = false := by rw [hp_lt hk]; simp only [decide_eq_false_iff_not]; exact hm
    have hg : d.gp k = true := by rw [gp_lt hk]; simp only [Bool.not_eq_true', decide_eq_false_iff_not]; exact hm
    rw [if_neg (show ¬ (d.cut k).home.getD k 0 = (d.cut k).me from hm)]
    have e1 : encZ d k = enc4 (d.gs k) := by
      unfold encZ numsL enc4
      rw [hp]; simp
    have hI : P4I (d.gs k) := ⟨⟨by omega, by omega⟩, ⟨by omega, by omega⟩, ⟨by omega, by omega⟩, ⟨by omega, by omega⟩⟩
    rw [e1, r4_enc _ hI]
    simp only
    rw [if_pos ⟨⟨b1, b2⟩, ⟨b3, b4⟩, ⟨b5, b6⟩, b7, b8⟩, LDk.cut_G h hg]
theorem runR_enc {d : LDk} (h : d.Ok) (hi : d.In 2199023255552) (b : Bool) : ∀ (k : Nat) (r : List UInt8), k ≤ d.home.length → runR (newD d.me d.home) (((List.range k).map (encZ d)).flatten ++ r, b) k = some (d.cut k, r, b)
  | 0, r, _ => by simp [runR, LDk.cut0 h]
  | k + 1, r, hk => by
    have ih := runR_enc h hi b k (encZ d k ++ r) (by omega)
    have e : ((List.range (k + 1)).map (encZ d)).flatten ++ r = ((List.range k).map (encZ d)).flatten ++ (encZ d k ++ r) := by
      rw [List.range_succ]; simp
    rw [e]
    unfold runR
    rw [ih]
    exact stepR_enc h hi (by omega) r b
theorem newDk_ok {d : LDk} (h : d.Ok) : newDk d.me d.home = some (newD d.me d.home) := by
  unfold newDk
  rw [if_pos ⟨h.me, h.len, h.hm⟩]
theorem ok_I64 {d : LDk} (h : d.Ok) : I64 d.me ∧ ∀ x ∈ d.home, I64 x := by
  refine ⟨?_, fun x hx => ?_⟩
  · rcases h.me with e | e <;> rw [e] <;> simp [I64]
  · rcases h.hm x hx with e | e <;> rw [e] <;> simp [I64]
/-- What is written is read. -/
theorem readDk_enc {d : LDk} (h : d.Ok) (hi : d.In 2199023255552) : readDk (encDk d) = some d := by
  obtain ⟨i1, i2⟩ := ok_I64 h
  have hl := h.len
  have e1 : rI (encDk d, false) = (d.me, encL (d.home.map encI) ++ ((List.range d.home.length).map (encZ d)).flatten, false) := by
    unfold encDk encDh
    rw [List.append_assoc]
    exact rI_enc d.me i1 _ false
  unfold readDk
  rw [e1]
  simp only [rNs_enc d.home i2 (by omega), newDk_ok h]
  have := runR_enc h hi false d.home.length [] (Nat.le_refl _)
  rw [List.append_nil, LDk.cut_all h] at this
  have e2 : (newD d.me d.home).home.length = d.home.length := rfl
  rw [e2, this]
  rfl
theorem stepR_me {d e : LDk} {k : Nat} {s t : RS} (h : stepR d k s = some (e, t)) : e.me = d.me ∧ e.home = d.home := by
  unfold stepR at h
  split at h <;> split at h <;> simp at h <;> obtain ⟨rfl, _⟩ := h <;> exact ⟨rfl, rfl⟩
theorem stepR_ok {d e : LDk} {k : Nat} {s t : RS} (hd : d.Ok) (hi : d.In 2199023255552) (hk : k < d.home.length) (h : stepR d k s = some (e, t)) : e.Ok ∧ e.In 2199023255552 := by
  unfold stepR at h
  split at h
  · rename_i hm
    split at h
    · rename_i hc
      obtain ⟨c0, ⟨c1, c2⟩, c3, c4⟩ := hc
      simp only [Option.some.injEq, Prod.mk.injEq] at h
      obtain ⟨rfl, _⟩ := h
      refine ⟨hd.setH (by rw [hp_lt hk, hm]; simp) ⟨⟨by simp only; omega, by simp only; omega⟩, by simp only; omega, by simp only; omega⟩, fun z => ?_⟩
      obtain ⟨q1, q2⟩ := hi z
      refine ⟨?_, q2⟩
      show 0 ≤ (if z = (k : Int) then _ else d.hs z).1 ∧ _
      by_cases e : z = (k : Int)
      · simp only [LDk.setH, if_pos e]; exact ⟨c1, c2, c3, c4⟩
      · simp only [LDk.setH, if_neg e]; exact q1
    · cases h
  · rename_i hm
    split at h
    · rename_i hc
      obtain ⟨⟨c1, c2⟩, ⟨c3, c4⟩, ⟨c5, c6⟩, c7, c8⟩ := hc
      simp only [Option.some.injEq, Prod.mk.injEq] at h
      obtain ⟨rfl, _⟩ := h
      refine ⟨hd.setG (by rw [gp_lt hk]; simp only [Bool.not_eq_true', decide_eq_false_iff_not]; exact hm) ⟨⟨by omega, by omega⟩, ⟨by omega, by omega⟩, ⟨by omega, by omega⟩, by omega, by omega⟩, fun z => ?_⟩
      obtain ⟨q1, q2⟩ := hi z
      refine ⟨q1, ?_⟩
      by_cases e : z = (k : Int)
      · simp only [LDk.setG, if_pos e]; exact ⟨c1, c2, c3, c4, c5, c6, c7, c8⟩
      · simp only [LDk.setG, if_neg e]; exact q2
    · cases h
theorem runR_ok {d : LDk} (hd : d.Ok) (hi : d.In 2199023255552) (s : RS) : ∀ (k : Nat) (e : LDk) (t : RS), k ≤ d.home.length → runR d s k = some (e, t) → e.Ok ∧ e.In 2199023255552 ∧ e.me = d.me ∧ e.home = d.home
  | 0, e, t, _, h => by
    simp only [runR, Option.some.injEq, Prod.mk.injEq] at h
    obtain ⟨rfl, _⟩ := h
    exact ⟨hd, hi, rfl, rfl⟩
  | k + 1, e, t, hk, h => by
    unfold runR at h
    cases hr : runR d s k with
    | none => rw [hr] at h; cases h
    | some x =>
      rw [hr] at h
      obtain ⟨e', t'⟩ := x
      obtain ⟨h1, h2, h3, h4⟩ := runR_ok hd hi s k e' t' (by omega) hr
      obtain ⟨g1, g2⟩ := stepR_me h
      simp only at g1 g2
      obtain ⟨j1, j2⟩ := stepR_ok h1 h2 (by rw [h4]; omega) h
      exact ⟨j1, j2, g1.trans h3, g2.trans h4⟩
theorem newD_in (me : Int) (home : List Int) (M : Int) (hM : 0 ≤ M) : (newD me home).In M := fun z => by simp [newD, hM]
theorem newDk_some {me : Int} {home : List Int} {d : LDk} (h : newDk me home = some d) : d = newD me home ∧ d.Ok := by
  unfold newDk at h
  split at h
  · rename_i hc
    simp only [Option.some.injEq] at h
    subst h
    exact ⟨rfl, newD_ok hc.1 hc.2.1 hc.2.2⟩
  · cases h
theorem readDk_ok {s : List UInt8} {d : LDk} (h : readDk s = some d) : d.Ok ∧ d.In 2199023255552 := by
  unfold readDk at h
  split at h
  · cases h
  · rename_i d0 h0
    obtain ⟨e0, ok0⟩ := newDk_some h0
    split at h
    · cases h
    · rename_i x hx
      split at h
      · obtain ⟨e, t⟩ := x
        simp only [Option.some.injEq] at h
        subst h
        obtain ⟨h1, h2, _⟩ := runR_ok ok0 (by rw [e0]; exact newD_in _ _ _ (by omega)) _ _ e t (Nat.le_refl _) hx
        exact ⟨h1, h2⟩
      · cases h
/-- How long an encoding is. -/
theorem encZ_le {d : LDk} (h : d.Ok) (k : Nat) : (encZ d k).length ≤ 88 := by
  obtain ⟨⟨x1, x2⟩, x3, x4⟩ := h.hb k
  obtain ⟨⟨y1, y2⟩, ⟨y3, y4⟩, ⟨y5, y6⟩, y7, y8⟩ := h.gb k
  unfold encZ numsL
  split
  · have := encI_le22 (d.hs k).1 ⟨by omega, by omega⟩
    have := encI_le22 (d.hs k).2.1 ⟨by omega, by omega⟩
    have := encI_le22 (if (d.hs k).2.2 = true then 1 else 0) (by simp only [I64]; split <;> omega)
    simp only [List.map_cons, List.map_nil, List.flatten_cons, List.flatten_nil, List.length_append, List.length_nil]
    omega
  · have := encI_le22 (d.gs k).1 ⟨by omega, by omega⟩
    have := encI_le22 (d.gs k).2.1 ⟨by omega, by omega⟩
    have := encI_le22 (d.gs k).2.2.1 ⟨by omega, by omega⟩
    have := encI_le22 (d.gs k).2.2.2 ⟨by omega, by omega⟩
    simp only [List.map_cons, List.map_nil, List.flatten_cons, List.flatten_nil, List.length_append, List.length_nil]
    omega
theorem flat_bd {α : Type} (f : α → List UInt8) (m : Nat) : ∀ (l : List α), (∀ x ∈ l, (f x).length ≤ m) → ((l.map f).flatten).length ≤ m * l.length
  | [], _ => by simp
  | x :: l, h => by
    have h1 := h x (List.mem_cons_self ..)
    have ih := flat_bd f m l (fun y hy => h y (List.mem_cons_of_mem _ hy))
    simp only [List.map_cons, List.flatten_cons, List.length_append, List.length_cons, Nat.mul_add, Nat.mul_one]
    omega
theorem encDh_le {d : LDk} (h : d.Ok) : (encDh d.me d.home).length ≤ 2000 := by
  obtain ⟨i1, i2⟩ := ok_I64 h
  have hl := h.len
  have a := encI_le22 d.me i1
  have b := flat_bd encI 22 d.home (fun x hx => encI_le22 x (i2 x hx))
  have c := hd_len d.home.length (by omega)
  unfold encDh encL
  unfold hd at c
  simp only [List.length_append, List.length_cons, List.length_nil, List.length_map] at c ⊢
  omega
theorem encZs_le {d : LDk} (h : d.Ok) (k : Nat) (hk : k ≤ 64) : (((List.range k).map (encZ d)).flatten).length ≤ 6000 := by
  have := flat_bd (encZ d) 88 (List.range k) (fun x _ => encZ_le h x)
  rw [List.length_range] at this
  omega
theorem encDk_le {d : LDk} (h : d.Ok) : (encDk d).length ≤ 10000 := by
  have := encDh_le h
  have := encZs_le h d.home.length h.len
  unfold encDk
  rw [List.length_append]
  omega
end Go.Proofs.YtappgjdnfllblaaDoor
