
/- Seam: two desks beside each other; the law's 'small'. -/
import Derived.Test.YtfofmbmmighdiaaDoorSeamH
import Derived.Test.YtfofmbmmighdiaaDoorSeamN
import Derived.Test.YtfofmbmmighdiaaDoorSeamP
set_option linter.unusedSimpArgs false
set_option linter.unusedVariables false
namespace Go.Proofs.YtfofmbmmighdiaaDoor
open Go.RowKit Go.IntWalk

theorem own_sep {w1 w2 : World} {base base' b b' : Nat} {v v' : Value} {me me' : Int} {rs rs' : List Rob} (h1 : Dk w1 base b v me rs) (h2 : Dk w2 base' b' v' me' rs') (hs : w1.heap.size ≤ base') :
    (v.ownBlock = none ∨ v.ownBlock ≠ v'.ownBlock) ∧ (v'.ownBlock = none ∨ v'.ownBlock ≠ v.ownBlock) := by
  cases hv : v.ownBlock with
  | none =>
    refine ⟨.inl rfl, ?_⟩
    cases hv' : v'.ownBlock with
    | none => exact .inl rfl
    | some k => exact .inr (by simp)
  | some j =>
    cases hv' : v'.ownBlock with
    | none => exact ⟨.inr (by simp), .inl rfl⟩
    | some k =>
      have a1 := (h1.r.lt j hv).2
      have a2 := (h2.r.lt k hv').1
      exact ⟨.inr (by simp; omega), .inr (by simp; omega)⟩
theorem Dk.beside {w w' : World} {base base' b b' : Nat} {v v' : Value} {me me' : Int} {rs rs' : List Rob} (h : Dk w base b v me rs) (h' : Dk w base' b' v' me' rs') (hg : w.grownBy w' v'.ownBlock)
    (hne : v.ownBlock = none ∨ v.ownBlock ≠ v'.ownBlock) : Dk w' base b v me rs := h.grown hg hne (fun e => own_blk_ne h'.r h.d (by decide) e.symm)
theorem Dk.low {w0 w w' : World} {base b : Nat} {v : Value} {me : Int} {rs : List Rob} (h : Dk w base b v me rs) (hB : Below w0.heap.size w0 w) (hb : w0.heap.size ≤ base) (hg : w.grownBy w' v.ownBlock) : Below w0.heap.size w0 w' :=
  hB.grown hg hB.size (fun j hj => by have := (h.r.lt j hj).1; omega)
theorem slb_one {W : World} {B g : Nat} {ty : TypeId} {x : Bool} (h : Blk W g ty #[.bool x]) (hB : g < B) : SlR W B (some ⟨g, 0, none⟩) [x] := by
  intro k y hy
  match k, hy with
  | 0, hy =>
    obtain rfl : x = y := by simpa using hy
    refine ⟨g, 0, [.bool x], rfl, hB, rfl, fun j u hu => ?_, rfl⟩
    match j, hu with
    | 0, hu =>
      obtain rfl : Value.bool x = u := by simpa using hu
      exact h.cell 0
    | j + 1, hu => simp at hu
  | k + 1, hy => simp at hy
/-- All calls, one after the other. -/
def doLs (rs : List Rob) (l : List Opp) : List Rob := l.foldl doL rs
theorem doLs_snoc (rs : List Rob) (l : List Opp) (o : Opp) : doLs rs (l ++ [o]) = doL (doLs rs l) o := by simp [doLs]
theorem doLs_len (rs : List Rob) (l : List Opp) : (doLs rs l).length = rs.length := by
  unfold doLs
  induction l generalizing rs with
  | nil => rfl
  | cons o l ih => rw [List.foldl_cons, ih, doL_len]
theorem doLs_ok (l : List Opp) : ∀ {M : Int} {rs : List Rob}, 1099511627776 ≤ M → (∀ r ∈ rs, RobOK M r) → (∀ o ∈ l, -1099511627776 ≤ o.2.1.2.2 ∧ o.2.1.2.2 ≤ 1099511627776) → ∀ r ∈ doLs rs l, RobOK (M + l.length) r := by
  induction l with
  | nil => intro M rs _ h _ r hr; simpa [doLs] using h r hr
  | cons o l ih =>
    intro M rs hM h hf r hr
    have h1 := doL_ok (by omega) h o (by have := (hf o (by simp)).2; omega)
    have := ih (M := M + 1) (by omega) h1 (fun x hx => hf x (by simp [hx])) r hr
    rw [List.length_cons]
    exact this.mono (by omega)
theorem newL_ok {me : Int} {mine : List Bool} {rs : List Rob} (h : newL me mine = some rs) : (me = 0 ∨ me = 1) ∧ rs.length = mine.length ∧ ∀ r ∈ rs, RobOK 1099511627776 r := by
  unfold newL at h
  split at h
  · rename_i hc
    injection h with h
    subst h
    refine ⟨hc.1, by simp, fun r hr => ?_⟩
    obtain ⟨x, _, rfl⟩ := List.mem_map.1 hr
    cases x <;> exact ⟨by simp, by simp, by simp⟩
  · cases h
theorem newL_none {me : Int} {mine : List Bool} (h : newL me mine = none) (hl : mine.length ≤ 20) : me ≠ 0 ∧ me ≠ 1 := by
  unfold newL at h
  split at h
  · cases h
  · rename_i hc
    constructor
    · intro e; exact hc ⟨.inl e, by omega⟩
    · intro e; exact hc ⟨.inr e, by omega⟩
end Go.Proofs.YtfofmbmmighdiaaDoor
