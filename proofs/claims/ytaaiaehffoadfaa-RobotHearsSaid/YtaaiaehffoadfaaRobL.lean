/- Robots: what stays as a mind goes on (plain); slices apart from a block. -/
import Derived.Test.YtaaiaehffoadfaaRobK
set_option linter.unusedSimpArgs false
set_option linter.unusedVariables false
namespace Go.Proofs.Ytaaiaehffoadfaa
open Go.RowKit Go.IntWalk

/-- A slice that does not lie in the block g. -/
def SlX (w : World) (g : Nat) (A : Option Addr) (l : List Int) : Prop := SlR w w.heap.size A l ∧ (l ≠ [] → ∀ a, A = some a → a.block ≠ g)
theorem SlX.of_old {w W : World} {B g : Nat} {A : Option Addr} {l : List Int} (h : SlR w B A l) (hg : B ≤ g) (hb : Below B w W) (hB : B ≤ w.heap.size) : SlX W g A l := by
  refine ⟨(h.below hb).more (Nat.le_trans hB hb.size), fun hne a ha => ?_⟩
  cases l with
  | nil => exact absurd rfl hne
  | cons x l =>
    obtain ⟨b, off, hA, hlt, _⟩ := h.int (k := 0) (by simp)
    rw [hA] at ha
    injection ha with ha
    subst ha
    simp
    omega
theorem SlX.of_fresh {W : World} {B g : Nat} {A : Option Addr} {l : List Int} (h : SlR W W.heap.size A l) (hf : Fresh B A) (hg : g < B) : SlX W g A l :=
  ⟨h, fun _ a ha => by have := hf a ha; omega⟩
theorem SlX.step {W W' : World} {g : Nat} {A : Option Addr} {l : List Int} (h : SlX W g A l) (hb : Below W.heap.size W W') : SlX W' g A l :=
  ⟨(h.1.below hb).more hb.size, h.2⟩
theorem SlX.set {W : World} {g : Nat} {A : Option Addr} {l : List Int} (h : SlX W g A l) {p : Addr} (hp : p.block = g) (u : Value) : SlX (W.setCell p u) g A l := by
  refine ⟨?_, h.2⟩
  cases l with
  | nil => exact SlR.nil
  | cons x l => exact (h.1.far (fun a ha => by rw [hp]; exact h.2 (by simp) a ha) u).more (by simp)

/-- The mind goes along the way wy, and is at its place 'at'. -/
structure St (W H D : Int) (kind out wy : List Int) (p : Nat) (c : Int) (q : List Int) : Prop where
  r : rightM W H D kind out c q = true
  y : wayL (nextL W H D kind out) c q = some (wy.drop p)

theorem wayL_head {nx : Int → Int → Option Int} : ∀ {q : List Int} {c : Int} {l : List Int}, wayL nx c q = some l → ∃ t, l = c :: t
  | [], c, l, h => by simp [wayL] at h; exact ⟨[], h.symm⟩
  | a :: q, c, l, h => by
    unfold wayL at h
    split at h
    · split at h
      · cases h
      · rename_i c' _
        cases hw : wayL nx c' q with
        | none => rw [hw] at h; cases h
        | some t => rw [hw] at h; simp at h; exact ⟨t, h.symm⟩
    · exact wayL_head h
section
variable {W H D : Int} {kind out wy : List Int} {p : Nat} {c : Int} {q : List Int}
theorem St.lt (h : St W H D kind out wy p c q) : p < wy.length := by
  obtain ⟨t, ht⟩ := wayL_head h.y
  rcases Nat.lt_or_ge p wy.length with h1 | h1
  · exact h1
  · rw [List.drop_eq_nil_of_le h1] at ht; cases ht
theorem St.at (h : St W H D kind out wy p c q) : wy[p]'h.lt = c := by
  obtain ⟨t, ht⟩ := wayL_head h.y
  have := List.drop_eq_getElem_cons h.lt
  rw [ht] at this
  injection this with h1 h2
  exact h1.symm
theorem St.known (h : St W H D kind out wy p c q) : ∀ x ∈ q, 0 ≤ x ∧ x < 10 := knownL_iff.1 (rightM_iff.1 h.r).2.2.2.1
theorem St.len (h : St W H D kind out wy p c q) : q.length ≤ 4 := (rightM_iff.1 h.r).2.2.1
theorem St.cell (h : St W H D kind out wy p c q) : 0 ≤ c ∧ c < kind.length := (rightM_iff.1 h.r).1
theorem St.last (h : St W H D kind out wy p c []) : wy.length = p + 1 := by
  have h1 := h.y
  simp [wayL] at h1
  have := congrArg List.length h1
  simp at this
  omega
theorem St.first (h : rightM W H D kind out c q = true) : ∃ wy, wayL (nextL W H D kind out) c q = some wy ∧ St W H D kind out wy 0 c q := by
  obtain ⟨_, _, _, _, l, hl⟩ := rightM_iff.1 h
  exact ⟨l, hl, h, by simpa using hl⟩
/-- An act that is no move was done. -/
theorem St.act {a : Int} (h : St W H D kind out wy p c (a :: q)) (hm : isMv a = false) : St W H D kind out wy p c q := by
  obtain ⟨h1, h2, h3, h4, l, hl⟩ := rightM_iff.1 h.r
  have hy := h.y
  simp only [wayL, hm] at hy hl
  refine ⟨rightM_iff.2 ⟨h1, h2, by simp at h3; omega, knownL_iff.2 fun x hx => knownL_iff.1 h4 x (by simp [hx]), l, by simpa using hl⟩, by simpa using hy⟩
theorem St.move {a : Int} (hR : RF W H D kind out) (h : St W H D kind out wy p c (a :: q)) (hm : isMv a = true) : ∃ n, nextL W H D kind out c (a - 1) = some n ∧ St W H D kind out wy (p + 1) n q := by
  obtain ⟨h1, h2, h3, h4, l, hl⟩ := rightM_iff.1 h.r
  have hy := h.y
  simp only [wayL, hm, if_true] at hy
  cases hn : nextL W H D kind out c (a - 1) with
  | none => rw [hn] at hy; cases hy
  | some n =>
    rw [hn] at hy
    simp only at hy
    cases hw : wayL (nextL W H D kind out) n q with
    | none => rw [hw] at hy; cases hy
    | some t =>
      rw [hw] at hy
      simp only [Option.map_some, Option.some.injEq] at hy
      have hd := List.drop_eq_getElem_cons h.lt
      rw [hd] at hy
      injection hy with e1 e2
      obtain ⟨n0, n1, n2⟩ := nextL_in hR hn
      refine ⟨n, rfl, rightM_iff.2 ⟨⟨n0, by rw [hR.k]; exact n1⟩, n2, by simp at h3; omega, knownL_iff.2 fun x hx => knownL_iff.1 h4 x (by simp [hx]), t, hw⟩, by rw [hw, e2]⟩
theorem St.did (hR : RF W H D kind out) (h : St W H D kind out wy p c q) {bb : Bool} {act : Int} (ha : q.headD 0 = act) {r : Int × List Int} (hr : didL (nextL W H D kind out) c q act bb = r) :
    (r = (c, q) ∧ bb = false) ∨ (r = (c, q) ∧ bb = true ∧ q = []) ∨ (∃ q1 n, bb = true ∧ q = act :: q1 ∧ (1 ≤ act ∧ act < 7) ∧ r = (n, q1) ∧ nextL W H D kind out c (act - 1) = some n ∧ St W H D kind out wy (p + 1) n q1) ∨
      (∃ q1, bb = true ∧ q = act :: q1 ∧ act < 1 ∧ r = (c, q1) ∧ St W H D kind out wy p c q1) ∨ (∃ q1, bb = true ∧ q = act :: q1 ∧ 7 ≤ act ∧ r = (c, q1) ∧ St W H D kind out wy p c q1) := by
  cases bb with
  | false => rw [didL_off] at hr; exact .inl ⟨hr.symm, rfl⟩
  | true =>
    cases q with
    | nil => simp [didL] at hr; exact .inr (.inl ⟨hr.symm, rfl, rfl⟩)
    | cons a q1 =>
      simp only [List.headD_cons] at ha
      subst ha
      simp only [didL, and_self, if_true] at hr
      cases hm : isMv a with
      | true =>
        obtain ⟨n, hn, hs⟩ := h.move hR hm
        refine .inr (.inr (.inl ⟨q1, n, rfl, rfl, by simpa [isMv] using hm, ?_, hn, hs⟩))
        rw [← hr, hm, hn]
        rfl
      | false =>
        have hs := h.act hm
        have : a < 1 ∨ 7 ≤ a := by
          simp [isMv] at hm
          omega
        rw [hm] at hr
        rcases this with h1 | h1
        · exact .inr (.inr (.inr (.inl ⟨q1, rfl, rfl, h1, hr.symm, hs⟩)))
        · exact .inr (.inr (.inr (.inr ⟨q1, rfl, rfl, h1, hr.symm, hs⟩)))
theorem St.did_st (hR : RF W H D kind out) (h : St W H D kind out wy p c q) {bb : Bool} {act : Int} (ha : q.headD 0 = act) {r : Int × List Int} (hr : didL (nextL W H D kind out) c q act bb = r) : rightM W H D kind out r.1 r.2 = true ∧ r.2.length ≤ 4 := by
  rcases h.did hR ha hr with ⟨rfl, _⟩ | ⟨rfl, _⟩ | ⟨q1, n, _, _, _, rfl, _, hs⟩ | ⟨q1, _, _, _, rfl, hs⟩ | ⟨q1, _, _, _, rfl, hs⟩
  · exact ⟨h.r, h.len⟩
  · exact ⟨h.r, h.len⟩
  · exact ⟨hs.r, hs.len⟩
  · exact ⟨hs.r, hs.len⟩
  · exact ⟨hs.r, hs.len⟩
end
end Go.Proofs.Ytaaiaehffoadfaa
