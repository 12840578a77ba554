
/- Lease, plain: two desks, their clocks and the notes under way: what holds at every moment. -/
import Derived.Test.YtappgjdnfllblaaDoorLeaS
import Derived.Test.YtappgjdnfllblaaDoorLzD
set_option linter.unusedSimpArgs false
set_option linter.unusedVariables false
namespace Go.Proofs.YtappgjdnfllblaaDoor
open Go.RowKit Go.IntWalk
theorem sendN_mem {F : List Pk} {sp : Int} {p q : Pk} (h : q ∈ sendN F sp p) : q ∈ F ∨ q = p := by
  unfold sendN at h
  split at h
  · simpa using h
  · exact .inl h
theorem sendN_len {F : List Pk} {sp : Int} {p : Pk} (h : F.length ≤ 500) : (sendN F sp p).length ≤ 500 := by
  unfold sendN
  split
  · rename_i hc; simp; omega
  · exact h
theorem dropN_mem {F : List Pk} {i : Int} {q : Pk} (h : q ∈ dropN F i) : q ∈ F := by
  unfold dropN at h
  split at h
  · exact List.mem_of_mem_eraseIdx h
  · exact h
theorem dropN_len {F : List Pk} {i : Int} (h : F.length ≤ 500) : (dropN F i).length ≤ 500 := by
  unfold dropN
  split
  · exact Nat.le_trans (List.length_eraseIdx_le _ _) h
  · exact h
theorem dblN_mem {F : List Pk} {i : Int} {q : Pk} (h : q ∈ dblN F i) : q ∈ F := by
  unfold dblN at h
  split at h
  · rename_i hc
    rcases List.mem_append.1 h with h | h
    · exact h
    · rw [List.mem_singleton.1 h]
      unfold getN
      rw [if_pos hc.1]
      have : i.toNat < F.length := by omega
      simp [List.getD, List.getElem?_eq_getElem this]
  · exact h
theorem dblN_len {F : List Pk} {i : Int} (h : F.length ≤ 500) : (dblN F i).length ≤ 500 := by
  unfold dblN
  split
  · rename_i hc; simp; omega
  · exact h
/-- Two desks, the notes under way, the network whole (0) or split (1), the time, the clocks' leads. -/
structure LS where
  da : LDk
  db : LDk
  F : List Pk
  sp : Int
  time : Int
  a0 : Int
  a1 : Int
def LS.D (s : LS) (w : Int) : LDk := if w = 0 then s.da else s.db
def LS.setD (s : LS) (w : Int) (d : LDk) : LS := if w = 0 then { s with da := d } else { s with db := d }
def LS.ahead (s : LS) (w : Int) : Int := if w = 0 then s.a0 else s.a1
def LS.clock (s : LS) (w : Int) : Int := s.time + s.ahead w
/-- The home of a zone. -/
def hm (home : List Int) (z : Int) : Int := home.getD z.toNat 0
/-- What the packet says about the zone. -/
def noteZ (z : Int) (p : Pk) : Option N3t := match readN p.2.2.data.toList with
  | some n => if n.2.1 = z then some (n.1, n.2.2.1, n.2.2.2) else none
  | none => none
def notesZ (z : Int) (F : List Pk) : List N3t := F.filterMap (noteZ z)
/-- The packet is a note to whom it concerns. -/
def PkOf (home : List Int) (p : Pk) (n : P4) : Prop :=
  p.2.2 = bs (enc4 n) ∧ P4I n ∧ (n.1 = 0 ∨ n.1 = 1 ∨ n.1 = 2) ∧ 0 ≤ n.2.1 ∧ n.2.1 < home.length ∧ p.2.1 = (if n.1 = 1 then 1 - hm home n.2.1 else hm home n.2.1) ∧ p.1 = 1 - p.2.1
theorem readN_bs (n : P4) (h : P4I n) : readN (bs (enc4 n)).data.toList = some n := by
  rw [show (bs (enc4 n)).data.toList = enc4 n by simp [bs]]
  exact readN_enc n h
theorem noteZ_of {home : List Int} {p : Pk} {n : P4} (h : PkOf home p n) (z : Int) : noteZ z p = if n.2.1 = z then some (n.1, n.2.2.1, n.2.2.2) else none := by
  unfold noteZ
  rw [h.1, readN_bs n h.2.1]
structure LInv (home : List Int) (i : Int) (s : LS) : Prop where
  h01 : ∀ x ∈ home, x = 0 ∨ x = 1
  len : home.length ≤ 64
  me : ∀ w, (w = 0 ∨ w = 1) → (s.D w).me = w ∧ (s.D w).home = home ∧ (s.D w).Ok
  sp : s.sp = 0 ∨ s.sp = 1
  fl : s.F.length ≤ 500
  t : 0 ≤ s.time ∧ s.time ≤ 7 * i
  a0 : 0 ≤ s.a0 ∧ s.a0 ≤ 2
  a1 : 0 ≤ s.a1 ∧ s.a1 ≤ 2
  pk : ∀ p ∈ s.F, ∃ n, PkOf home p n
  zi : ∀ z : Int, 0 ≤ z → z < home.length → ZI ((s.D (hm home z)).hs z) ((s.D (1 - hm home z)).gs z) (notesZ z s.F)
  soon : ∀ z : Int, 0 ≤ z → z < home.length → ((s.D (hm home z)).hs z).1 ≤ s.clock (hm home z) + 30
  nos : ∀ z : Int, 0 ≤ z → z < home.length → ((s.D (hm home z)).hs z).2.1 ≤ i
  asks : ∀ z : Int, 0 ≤ z → z < home.length → 0 ≤ ((s.D (1 - hm home z)).gs z).2.2.2 ∧ ((s.D (1 - hm home z)).gs z).2.2.2 ≤ i
section
variable {home : List Int} {i : Int} {s : LS}
theorem hm01 (h : ∀ x ∈ home, x = 0 ∨ x = 1) {z : Int} (h0 : 0 ≤ z) (h1 : z < home.length) : hm home z = 0 ∨ hm home z = 1 := by
  unfold hm
  have : z.toNat < home.length := by omega
  simp only [List.getD, List.getElem?_eq_getElem this, Option.getD_some]
  exact h _ (List.getElem_mem this)
theorem hpD {d : LDk} {z : Int} (h0 : 0 ≤ z) (h1 : z < d.home.length) : d.hp z = decide (hm d.home z = d.me) := by
  simp [LDk.hp, h0, h1, hm]
theorem gpD {d : LDk} {z : Int} (h0 : 0 ≤ z) (h1 : z < d.home.length) : d.gp z = !decide (hm d.home z = d.me) := by
  simp only [LDk.gp]
  rw [← decide_not]
  congr 1
  simp [h0, h1, hm]
theorem asD {d : LDk} {z : Int} {f : Bool} (h : lAs d z f = 0) : 0 ≤ z ∧ z < d.home.length ∧ decide (hm d.home z = d.me) = f := by
  unfold lAs at h
  split at h
  · cases h
  · rename_i hz
    split at h
    · cases h
    · rename_i h2
      refine ⟨by omega, by omega, ?_⟩
      unfold hm
      simpa using h2
theorem asD0 {d : LDk} {z : Int} {f : Bool} (h0 : 0 ≤ z) (h1 : z < d.home.length) (h2 : decide (hm d.home z = d.me) = f) : lAs d z f = 0 := by
  unfold lAs
  rw [if_neg (by omega), if_neg (by unfold hm at h2; simpa using h2)]
theorem D_set (w v : Int) (d : LDk) (hw : w = 0 ∨ w = 1) (hv : v = 0 ∨ v = 1) : (s.setD w d).D v = if v = w then d else s.D v := by
  rcases hw with rfl | rfl <;> rcases hv with rfl | rfl <;> simp [LS.setD, LS.D]
@[simp] theorem set_F (w : Int) (d : LDk) : (s.setD w d).F = s.F := by unfold LS.setD; split <;> rfl
@[simp] theorem set_sp (w : Int) (d : LDk) : (s.setD w d).sp = s.sp := by unfold LS.setD; split <;> rfl
@[simp] theorem set_time (w : Int) (d : LDk) : (s.setD w d).time = s.time := by unfold LS.setD; split <;> rfl
@[simp] theorem set_a0 (w : Int) (d : LDk) : (s.setD w d).a0 = s.a0 := by unfold LS.setD; split <;> rfl
@[simp] theorem set_a1 (w : Int) (d : LDk) : (s.setD w d).a1 = s.a1 := by unfold LS.setD; split <;> rfl
@[simp] theorem set_clock (w v : Int) (d : LDk) : (s.setD w d).clock v = s.clock v := by unfold LS.clock LS.ahead; simp
theorem notesZ_mem {z : Int} {F F' : List Pk} (h : ∀ p ∈ F', p ∈ F) : ∀ m ∈ notesZ z F', m ∈ notesZ z F := by
  intro m hm
  unfold notesZ at hm ⊢
  rw [List.mem_filterMap] at hm ⊢
  obtain ⟨p, hp, hq⟩ := hm
  exact ⟨p, h p hp, hq⟩
theorem notesZ_send {z : Int} {F : List Pk} {sp : Int} {p : Pk} {n : P4} (h : PkOf home p n) : ∀ m ∈ notesZ z (sendN F sp p), m ∈ notesZ z F ++ (if n.2.1 = z then [(n.1, n.2.2.1, n.2.2.2)] else []) := by
  intro m hm
  unfold notesZ at hm ⊢
  rw [List.mem_filterMap] at hm
  obtain ⟨q, hq, he⟩ := hm
  rcases sendN_mem hq with hq | rfl
  · exact List.mem_append_left _ (List.mem_filterMap.2 ⟨q, hq, he⟩)
  · rw [noteZ_of h] at he
    split at he
    · rename_i hc
      rw [if_pos hc]
      simp only [Option.some.injEq] at he
      exact List.mem_append_right _ (by rw [he]; exact List.mem_singleton.2 rfl)
    · cases he
theorem LInv.zn (h : LInv home i s) {w : Int} (hw : w = 0 ∨ w = 1) : (s.D w).home.length = home.length := by rw [(h.me w hw).2.1]
/-- The step of time: nothing else changes. -/
theorem LInv.mono (h : LInv home i s) {j : Int} (hj : i ≤ j) : LInv home j s :=
  ⟨h.h01, h.len, h.me, h.sp, h.fl, ⟨h.t.1, by have := h.t.2; omega⟩, h.a0, h.a1, h.pk, h.zi, h.soon, fun z a b => by have := h.nos z a b; omega, fun z a b => by have := h.asks z a b; omega⟩
theorem LInv.net (h : LInv home i s) {F' : List Pk} {sp' : Int} (hF : ∀ p ∈ F', p ∈ s.F) (hl : F'.length ≤ 500) (hsp : sp' = 0 ∨ sp' = 1) : LInv home i { s with F := F', sp := sp' } :=
  ⟨h.h01, h.len, h.me, hsp, hl, h.t, h.a0, h.a1, fun p hp => h.pk p (hF p hp), fun z a b => (h.zi z a b).sub (notesZ_mem hF), h.soon, h.nos, h.asks⟩
/-- One desk is changed at one zone that is at home there. -/
theorem LInv.setH (h : LInv home i s) {w z : Int} (hw : w = 0 ∨ w = 1) (h0 : 0 ≤ z) (h1 : z < home.length) (hz : hm home z = w) {x : Ho} {F' : List Pk} (hF : F'.length ≤ 500) (hpk : ∀ p ∈ F', ∃ n, PkOf home p n) (hB : HoB x)
    (hzi : ZI x ((s.D (1 - w)).gs z) (notesZ z F')) (hoth : ∀ y, y ≠ z → ∀ m ∈ notesZ y F', m ∈ notesZ y s.F) (hs : x.1 ≤ s.clock w + 30) (hn : x.2.1 ≤ i + 1) : LInv home (i + 1) { s.setD w ((s.D w).setH z x) with F := F' } := by
  have hD : ∀ v, (v = 0 ∨ v = 1) → ({ s.setD w ((s.D w).setH z x) with F := F' } : LS).D v = if v = w then (s.D w).setH z x else s.D v := fun v hv => by
    have := D_set (s := s) w v ((s.D w).setH z x) hw hv
    rw [← this]; rfl
  have hC : ∀ v, ({ s.setD w ((s.D w).setH z x) with F := F' } : LS).clock v = s.clock v := fun v => by
    rw [← set_clock (s := s) w v ((s.D w).setH z x)]; rfl
  obtain ⟨m1, m2, m3⟩ := h.me w hw
  have hp : (s.D w).hp z = true := by rw [hpD h0 (by rw [m2]; exact h1), m2, m1, hz]; simp
  refine ⟨h.h01, h.len, fun v hv => ?_, by simpa using h.sp, hF, ⟨by simpa using h.t.1, by have := h.t.2; simp only [set_time]; omega⟩, by simpa using h.a0, by simpa using h.a1, hpk, fun y y0 y1 => ?_, fun y y0 y1 => ?_, fun y y0 y1 => ?_, fun y y0 y1 => ?_⟩
  · rw [hD v hv]
    split
    · rename_i e; subst e; exact ⟨m1, m2, m3.setH hp hB⟩
    · exact h.me v hv
  all_goals
    have y01 := hm01 h.h01 y0 y1
    have y10 : 1 - hm home y = 0 ∨ 1 - hm home y = 1 := by omega
  · rw [hD _ y01, hD _ y10]
    by_cases e : y = z
    · subst e
      rw [if_pos hz, if_neg (by omega), hz]
      have : (((s.D w).setH y x).hs y) = x := by show (if y = y then x else _) = x; rw [if_pos rfl]
      rw [this]; exact hzi
    · have ho := (h.zi y y0 y1).sub (hoth y e)
      have e1 : (if hm home y = w then (s.D w).setH z x else s.D (hm home y)).hs y = (s.D (hm home y)).hs y := by
        split
        · rename_i e2; rw [e2]; show (if y = z then x else _) = _; rw [if_neg e]
        · rfl
      have e2 : (if 1 - hm home y = w then (s.D w).setH z x else s.D (1 - hm home y)).gs y = (s.D (1 - hm home y)).gs y := by
        split
        · rename_i e2; rw [e2]; rfl
        · rfl
      rw [e1, e2]; exact ho
  · rw [hD _ y01, hC]
    by_cases e : y = z
    · subst e
      rw [if_pos hz, hz]
      have : (((s.D w).setH y x).hs y) = x := by show (if y = y then x else _) = x; rw [if_pos rfl]
      rw [this]; exact hs
    · have e1 : (if hm home y = w then (s.D w).setH z x else s.D (hm home y)).hs y = (s.D (hm home y)).hs y := by
        split
        · rename_i e2; rw [e2]; show (if y = z then x else _) = _; rw [if_neg e]
        · rfl
      rw [e1]; exact h.soon y y0 y1
  · rw [hD _ y01]
    by_cases e : y = z
    · subst e
      rw [if_pos hz]
      have : (((s.D w).setH y x).hs y) = x := by show (if y = y then x else _) = x; rw [if_pos rfl]
      rw [this]; exact hn
    · have e1 : (if hm home y = w then (s.D w).setH z x else s.D (hm home y)).hs y = (s.D (hm home y)).hs y := by
        split
        · rename_i e2; rw [e2]; show (if y = z then x else _) = _; rw [if_neg e]
        · rfl
      rw [e1]; have := h.nos y y0 y1; omega
  · rw [hD _ y10]
    have e2 : (if 1 - hm home y = w then (s.D w).setH z x else s.D (1 - hm home y)).gs y = (s.D (1 - hm home y)).gs y := by
      split
      · rename_i e2; rw [e2]; rfl
      · rfl
    rw [e2]; have := h.asks y y0 y1; omega
/-- One desk is changed at one zone that it is the guest of. -/
theorem LInv.setG (h : LInv home i s) {w z : Int} (hw : w = 0 ∨ w = 1) (h0 : 0 ≤ z) (h1 : z < home.length) (hz : hm home z = 1 - w) {x : Gu} {F' : List Pk} (hF : F'.length ≤ 500) (hpk : ∀ p ∈ F', ∃ n, PkOf home p n) (hB : GuB x)
    (hzi : ZI ((s.D (1 - w)).hs z) x (notesZ z F')) (hoth : ∀ y, y ≠ z → ∀ m ∈ notesZ y F', m ∈ notesZ y s.F) (hn : 0 ≤ x.2.2.2 ∧ x.2.2.2 ≤ i + 1) : LInv home (i + 1) { s.setD w ((s.D w).setG z x) with F := F' } := by
  have hD : ∀ v, (v = 0 ∨ v = 1) → ({ s.setD w ((s.D w).setG z x) with F := F' } : LS).D v = if v = w then (s.D w).setG z x else s.D v := fun v hv => by
    have := D_set (s := s) w v ((s.D w).setG z x) hw hv
    rw [← this]; rfl
  have hC : ∀ v, ({ s.setD w ((s.D w).setG z x) with F := F' } : LS).clock v = s.clock v := fun v => by
    rw [← set_clock (s := s) w v ((s.D w).setG z x)]; rfl
  obtain ⟨m1, m2, m3⟩ := h.me w hw
  have hp : (s.D w).gp z = true := by rw [gpD h0 (by rw [m2]; exact h1), m2, m1, hz]; simp; omega
  refine ⟨h.h01, h.len, fun v hv => ?_, by simpa using h.sp, hF, ⟨by simpa using h.t.1, by have := h.t.2; simp only [set_time]; omega⟩, by simpa using h.a0, by simpa using h.a1, hpk, fun y y0 y1 => ?_, fun y y0 y1 => ?_, fun y y0 y1 => ?_, fun y y0 y1 => ?_⟩
  · rw [hD v hv]
    split
    · rename_i e; subst e; exact ⟨m1, m2, m3.setG hp hB⟩
    · exact h.me v hv
  all_goals
    have y01 := hm01 h.h01 y0 y1
    have y10 : 1 - hm home y = 0 ∨ 1 - hm home y = 1 := by omega
    have eh : (if hm home y = w then (s.D w).setG z x else s.D (hm home y)).hs y = (s.D (hm home y)).hs y := by
      split
      · rename_i e2; rw [e2]; rfl
      · rfl
  · rw [hD _ y01, hD _ y10, eh]
    by_cases e : y = z
    · subst e
      rw [if_pos (by omega), hz]
      have : (((s.D w).setG y x).gs y) = x := by show (if y = y then x else _) = x; rw [if_pos rfl]
      rw [this]; exact hzi
    · have ho := (h.zi y y0 y1).sub (hoth y e)
      have e2 : (if 1 - hm home y = w then (s.D w).setG z x else s.D (1 - hm home y)).gs y = (s.D (1 - hm home y)).gs y := by
        split
        · rename_i e2; rw [e2]; show (if y = z then x else _) = _; rw [if_neg e]
        · rfl
      rw [e2]; exact ho
  · rw [hD _ y01, hC, eh]; exact h.soon y y0 y1
  · rw [hD _ y01, eh]; have := h.nos y y0 y1; omega
  · rw [hD _ y10]
    by_cases e : y = z
    · subst e
      rw [if_pos (by omega)]
      have : (((s.D w).setG y x).gs y) = x := by show (if y = y then x else _) = x; rw [if_pos rfl]
      rw [this]; exact hn
    · have e2 : (if 1 - hm home y = w then (s.D w).setG z x else s.D (1 - hm home y)).gs y = (s.D (1 - hm home y)).gs y := by
        split
        · rename_i e2; rw [e2]; show (if y = z then x else _) = _; rw [if_neg e]
        · rfl
      rw [e2]; have := h.asks y y0 y1; omega
/-- The numbers of a zone are small. -/
theorem LInv.nums (h : LInv home i s) (hi : i ≤ 100000) {z : Int} (h0 : 0 ≤ z) (h1 : z < home.length) :
    (0 ≤ ((s.D (hm home z)).hs z).1 ∧ ((s.D (hm home z)).hs z).1 ≤ 1000000 ∧ 0 ≤ ((s.D (hm home z)).hs z).2.1 ∧ ((s.D (hm home z)).hs z).2.1 ≤ 100000) ∧
    (0 ≤ ((s.D (1 - hm home z)).gs z).1 ∧ ((s.D (1 - hm home z)).gs z).1 ≤ 1000000 ∧ 0 ≤ ((s.D (1 - hm home z)).gs z).2.1 ∧ ((s.D (1 - hm home z)).gs z).2.1 ≤ 100000 ∧ 0 ≤ ((s.D (1 - hm home z)).gs z).2.2.1 ∧ ((s.D (1 - hm home z)).gs z).2.2.1 ≤ 100000 ∧ 0 ≤ ((s.D (1 - hm home z)).gs z).2.2.2 ∧ ((s.D (1 - hm home z)).gs z).2.2.2 ≤ 100000) := by
  have a := h.zi z h0 h1
  have b := h.soon z h0 h1
  have c := h.nos z h0 h1
  have d := h.asks z h0 h1
  have a1 := a.g0; have a2 := a.gh; have a3 := a.hn; have a4 := a.hl; have a5 := a.h0
  have t := h.t; have e0 := h.a0; have e1 := h.a1
  have hc : s.clock (hm home z) ≤ s.time + 2 := by unfold LS.clock LS.ahead; split <;> omega
  refine ⟨⟨by omega, by omega, by omega, by omega⟩, by omega, by omega, by omega, by omega, by omega, by omega, by omega, by omega⟩
theorem LInv.in_ (h : LInv home i s) (hi : i ≤ 100000) {w : Int} (hw : w = 0 ∨ w = 1) : (s.D w).In 1000000 := by
  obtain ⟨m1, m2, m3⟩ := h.me w hw
  intro z
  refine ⟨?_, ?_⟩
  · cases hp : (s.D w).hp z with
    | false => rw [m3.hh z hp]; simp
    | true =>
      have hp' := hp
      simp only [LDk.hp, decide_eq_true_eq] at hp'
      have h0 := hp'.1; have h1 := hp'.2.1; rw [m2] at h1
      have hz : hm home z = w := by have := hp'.2.2; rw [m2, m1] at this; exact this
      have := (h.nums hi h0 h1).1
      rw [hz] at this
      omega
  · cases hp : (s.D w).gp z with
    | false => rw [m3.gg z hp]; simp
    | true =>
      have hp' := hp
      simp only [LDk.gp, decide_eq_true_eq] at hp'
      have h0 := hp'.1; have h1 := hp'.2.1; rw [m2] at h1
      have hz : hm home z ≠ w := by have := hp'.2.2; rw [m2, m1] at this; exact this
      have h01 := hm01 h.h01 h0 h1
      have hz2 : 1 - hm home z = w := by omega
      have := (h.nums hi h0 h1).2
      rw [hz2] at this
      omega
end
end Go.Proofs.YtappgjdnfllblaaDoor
