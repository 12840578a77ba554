
/- Table, plain: what Needs keeps while it searches, and what it returns. -/
import Derived.Test.YtdjjhflhdhihcaaTabP
set_option linter.unusedSimpArgs false
set_option linter.unusedVariables false
namespace Go.Proofs.Ytdjjhflhdhihcaa
open Go.RowKit Go.IntWalk

theorem nodup_sub {T : Type} [DecidableEq T] : ∀ (O L : List T), O.Nodup → (∀ x ∈ O, x ∈ L) → O.length ≤ L.length
  | [], _, _, _ => Nat.zero_le _
  | x :: O, L, hn, hs => by
    obtain ⟨h1, h2⟩ := List.nodup_cons.1 hn
    have hx := hs x (List.mem_cons_self ..)
    have ih := nodup_sub O (L.erase x) h2 (fun y hy => (List.mem_erase_of_ne (fun e => h1 (by subst e; exact hy))).2 (hs y (List.mem_cons_of_mem _ hy)))
    rw [List.length_erase_of_mem hx] at ih
    have := List.length_pos_of_mem hx
    simp only [List.length_cons]
    omega
/-- x's move leads to t. -/
def leads (g : Gm) (x : Row) (t : Int) : Prop := ∃ m, tMove g x.1 x.2.1 = some m ∧ t ∈ m.2
structure NInv (g : Gm) (rows : List Row) (pos : Int) (O : List Row) (Q : List Int) : Prop where
  mem : ∀ x ∈ O, tRow rows x.1 = some x
  nd : (O.map kP).Nodup
  cl : ∀ x ∈ O, ∀ t, leads g x t → t ∈ Q ∨ tRow rows t = none ∨ ∃ y ∈ O, y.1 = t
  st : pos ∈ Q ∨ tRow rows pos = none ∨ ∃ y ∈ O, y.1 = pos
  re : ∀ x ∈ O, x.1 = pos ∨ ∃ y ∈ O, leads g y x.1
  rq : ∀ t ∈ Q, t = pos ∨ ∃ y ∈ O, leads g y t
/-- What Needs returns. -/
structure NdR (g : Gm) (rows : List Row) (pos : Int) (l : List Row) : Prop where
  asc : Asc kP l
  mem : ∀ x ∈ l, tRow rows x.1 = some x
  cl : ∀ x ∈ l, ∀ t, leads g x t → tRow rows t = none ∨ ∃ y ∈ l, y.1 = t
  st : tRow rows pos = none ∨ ∃ y ∈ l, y.1 = pos
  re : ∀ x ∈ l, x.1 = pos ∨ ∃ y ∈ l, leads g y x.1
section
variable {g : Gm} {rows : List Row} {pos p : Int} {O : List Row} {Q : List Int}
theorem NInv.start (g : Gm) (rows : List Row) (pos : Int) : NInv g rows pos [] [pos] :=
  ⟨by simp, List.nodup_nil, by simp, .inl (by simp), by simp, fun t ht => .inl (by simpa using ht)⟩
/-- A position that has no row, or has been seen. -/
theorem NInv.skip (h : NInv g rows pos O (p :: Q)) (hp : tRow rows p = none ∨ ∃ y ∈ O, y.1 = p) : NInv g rows pos O Q := by
  refine ⟨h.mem, h.nd, fun x hx t ht => ?_, ?_, h.re, fun t ht => h.rq t (List.mem_cons_of_mem _ ht)⟩
  · rcases h.cl x hx t ht with h1 | h1
    · rcases List.mem_cons.1 h1 with rfl | h1
      · exact .inr hp
      · exact .inl h1
    · exact .inr h1
  · rcases h.st with h1 | h1
    · rcases List.mem_cons.1 h1 with rfl | h1
      · exact .inr hp
      · exact .inl h1
    · exact .inr h1
/-- A new row: its move's positions go into the queue. -/
theorem NInv.add (h : NInv g rows pos O (p :: Q)) {r : Row} (hr : tRow rows p = some r) (hn : ∀ y ∈ O, y.1 ≠ p) {ys : List Int} (hy : ∀ t, leads g r t ↔ t ∈ ys) : NInv g rows pos (O ++ [r]) (Q ++ ys) := by
  obtain ⟨hrm, hrp⟩ := look_mem hr
  simp only [kP] at hrp
  have up : ∀ {t : Int}, (∃ y ∈ O, y.1 = t) → ∃ y ∈ O ++ [r], y.1 = t := fun ⟨y, hy, e⟩ => ⟨y, List.mem_append_left _ hy, e⟩
  have upl : ∀ {t : Int}, (∃ y ∈ O, leads g y t) → ∃ y ∈ O ++ [r], leads g y t := fun ⟨y, hy, e⟩ => ⟨y, List.mem_append_left _ hy, e⟩
  have me : ∃ y ∈ O ++ [r], y.1 = p := ⟨r, by simp, hrp⟩
  refine ⟨fun x hx => ?_, ?_, fun x hx t ht => ?_, ?_, fun x hx => ?_, fun t ht => ?_⟩
  · rcases List.mem_append.1 hx with hx | hx
    · exact h.mem x hx
    · rw [List.mem_singleton.1 hx, hrp]; exact hr
  · rw [List.map_append, List.nodup_append]
    refine ⟨h.nd, by simp, ?_⟩
    intro a ha b hb e
    simp only [List.map_cons, List.map_nil, List.mem_singleton] at hb
    obtain ⟨y, hy, rfl⟩ := List.mem_map.1 ha
    exact hn y hy (by simp only [kP] at e hb; omega)
  · rcases List.mem_append.1 hx with hx | hx
    · rcases h.cl x hx t ht with h1 | h1 | h1
      · rcases List.mem_cons.1 h1 with rfl | h1
        · exact .inr (.inr me)
        · exact .inl (List.mem_append_left _ h1)
      · exact .inr (.inl h1)
      · exact .inr (.inr (up h1))
    · rw [List.mem_singleton.1 hx] at ht
      exact .inl (List.mem_append_right _ ((hy t).1 ht))
  · rcases h.st with h1 | h1 | h1
    · rcases List.mem_cons.1 h1 with rfl | h1
      · exact .inr (.inr me)
      · exact .inl (List.mem_append_left _ h1)
    · exact .inr (.inl h1)
    · exact .inr (.inr (up h1))
  · rcases List.mem_append.1 hx with hx | hx
    · exact (h.re x hx).imp id upl
    · rw [List.mem_singleton.1 hx, hrp]
      exact (h.rq p (List.mem_cons_self ..)).imp id upl
  · rcases List.mem_append.1 ht with ht | ht
    · exact (h.rq t (List.mem_cons_of_mem _ ht)).imp id upl
    · exact .inr ⟨r, by simp, (hy t).2 ht⟩
theorem NInv.sub (h : NInv g rows pos O Q) : O.length ≤ rows.length := by
  have h1 : O.Nodup := List.Pairwise.of_map kP (fun a b h e => h (by rw [e])) h.nd
  exact nodup_sub O rows h1 (fun x hx => (look_mem (h.mem x hx)).1)
theorem NInv.done (h : NInv g rows pos O []) {l : List Row} (hp : l.Perm O) (hs : l.Pairwise (fun a b => a.1 ≤ b.1)) : NdR g rows pos l := by
  have hm : ∀ x, x ∈ l ↔ x ∈ O := fun x => hp.mem_iff
  have hnd : (l.map kP).Nodup := (hp.map kP).nodup_iff.2 h.nd
  refine ⟨List.pairwise_iff_getElem.2 fun i j hi hj hij => ?_, fun x hx => h.mem x ((hm x).1 hx), fun x hx t ht => ?_, ?_, fun x hx => ?_⟩
  · have h1 := List.pairwise_iff_getElem.1 hs i j hi hj hij
    have h2 := List.pairwise_iff_getElem.1 hnd i j (by rw [List.length_map]; exact hi) (by rw [List.length_map]; exact hj) hij
    rw [List.getElem_map, List.getElem_map] at h2
    simp only [kP] at h2 ⊢
    omega
  · rcases h.cl x ((hm x).1 hx) t ht with h1 | h1 | ⟨y, hy, e⟩
    · cases h1
    · exact .inl h1
    · exact .inr ⟨y, (hm y).2 hy, e⟩
  · rcases h.st with h1 | h1 | ⟨y, hy, e⟩
    · cases h1
    · exact .inl h1
    · exact .inr ⟨y, (hm y).2 hy, e⟩
  · rcases h.re x ((hm x).1 hx) with h1 | ⟨y, hy, e⟩
    · exact .inl h1
    · exact .inr ⟨y, (hm y).2 hy, e⟩
end
end Go.Proofs.Ytdjjhflhdhihcaa
