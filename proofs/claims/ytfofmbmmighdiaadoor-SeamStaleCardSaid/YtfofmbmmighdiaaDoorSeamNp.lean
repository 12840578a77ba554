
/- Seam, plain: two desks' robots, and the passes that were ever sent between them: what never breaks. -/
import Derived.Test.YtfofmbmmighdiaaDoorSeamP
set_option linter.unusedSimpArgs false
set_option linter.unusedVariables false
namespace Go.Proofs.YtfofmbmmighdiaaDoor
open Go.RowKit Go.IntWalk

/-- How two desks may stand to each other over one robot: the first one of them offered it last (or has it). -/
def Shape1 (x y : Rob) : Prop :=
  (x.1 = 1 ∧ x.2.1 = y.2.1 ∧ x.2.2 = false ∧ y.1 = 0) ∨ (x.1 = 2 ∧ x.2.1 = y.2.1 + 1 ∧ x.2.2 = false ∧ y.1 = 0) ∨
  (x.1 = 2 ∧ x.2.1 = y.2.1 ∧ x.2.2 = false ∧ y.2.2 = false ∧ y.1 = 1) ∨ (x.1 = 2 ∧ x.2.1 = y.2.1 ∧ x.2.2 = false ∧ y.1 = 0 ∧ y.2.2 = true) ∨
  (x.1 = 2 ∧ y.1 = 2 ∧ y.2.1 = x.2.1 + 1 ∧ x.2.2 = false ∧ y.2.2 = false)
def Shape (x y : Rob) : Prop := Shape1 x y ∨ Shape1 y x
theorem Shape.symm {x y : Rob} (h : Shape x y) : Shape y x := h.elim .inr .inl
/-- A pass of kind k and number n, sent to the side of x by that of y at any time. -/
def MsgOK (x y : Rob) (k n : Int) : Prop :=
  (k = 0 → n ≤ y.2.1) ∧ (k = 1 → n ≤ x.2.1 ∧ (x.1 = 2 ∧ x.2.1 = n → (y.1 = 1 ∧ y.2.1 = n) ∨ (y.1 = 2 ∧ y.2.1 = n + 1))) ∧
  (k = 2 → n ≤ x.2.1 ∧ (x.1 = 2 ∧ x.2.1 = n → y.1 = 0 ∧ y.2.1 = n ∧ y.2.2 = true)) ∧ (k = 0 ∨ k = 1 ∨ k = 2)
/-- What hearing a pass makes of one robot: the robot, the answer's kind (or -1), the error. -/
def hear1 (x : Rob) (k n : Int) (take : Bool) : Rob × Int × Int :=
  if k = 0 then offeredL x n take else if k = 1 then (takenL x n, -1, 0) else (keptL x n, -1, 0)

theorem shape_offer {x y : Rob} (h : Shape x y) (hx : x.1 = 1) :
    Shape (2, x.2.1 + 1, x.2.2) y ∧ (∀ k n, MsgOK x y k n → MsgOK (2, x.2.1 + 1, x.2.2) y k n) ∧ (∀ k n, MsgOK y x k n → MsgOK y (2, x.2.1 + 1, x.2.2) k n) ∧ MsgOK y (2, x.2.1 + 1, x.2.2) 0 (x.2.1 + 1) := by
  obtain ⟨p, m, f⟩ := x
  obtain ⟨q, l, g⟩ := y
  simp only [Shape, Shape1, MsgOK] at *
  subst hx
  refine ⟨?_, ?_, ?_, ?_⟩
  · rcases h with h | h
    · left; right; left; simp_all
    · right; right; right; right; right
      simp_all
  · intro k n hm
    refine ⟨fun hk => hm.1 hk, fun hk => ⟨by have := (hm.2.1 hk).1; omega, fun hh => by have := (hm.2.1 hk).1; omega⟩, fun hk => ⟨by have := (hm.2.2.1 hk).1; omega, fun hh => by have := (hm.2.2.1 hk).1; omega⟩, hm.2.2.2⟩
  · intro k n hm
    refine ⟨fun hk => by have := hm.1 hk; omega, fun hk => ⟨(hm.2.1 hk).1, fun hh => ?_⟩, fun hk => ⟨(hm.2.2.1 hk).1, fun hh => ?_⟩, hm.2.2.2⟩
    · have := (hm.2.1 hk).2 hh
      grind
    · have := (hm.2.2.1 hk).2 hh
      grind
  · simp
theorem msg_again {x y : Rob} : MsgOK y x 0 x.2.1 := by simp [MsgOK]
theorem shape_hear {x y : Rob} (h : Shape x y) {k n : Int} (hm : MsgOK x y k n) (take : Bool) :
    Shape (hear1 x k n take).1 y ∧ (∀ j m, MsgOK x y j m → MsgOK (hear1 x k n take).1 y j m) ∧ (∀ j m, MsgOK y x j m → MsgOK y (hear1 x k n take).1 j m) ∧
    (hear1 x k n take).2.2 = 0 ∧ (0 ≤ (hear1 x k n take).2.1 → MsgOK y (hear1 x k n take).1 (hear1 x k n take).2.1 n) ∧ (hear1 x k n take).1.2.1 ≤ max x.2.1 y.2.1 := by
  obtain ⟨p, a, f⟩ := x
  obtain ⟨q, b, g⟩ := y
  obtain ⟨m0, m1, m2, mk⟩ := hm
  simp only [Shape, Shape1] at h
  simp only at m0 m1 m2
  rcases mk with rfl | rfl | rfl
  · have m0 := m0 rfl
    clear m1 m2
    unfold hear1 offeredL
    simp only [if_true]
    by_cases h1 : n < a
    · simp only [h1, if_true]
      exact ⟨h, fun _ _ hj => hj, fun _ _ hj => hj, by simp, by simp, (by first | omega | (simp; done) | (simp; omega))⟩
    · simp only [h1, if_false]
      by_cases h2 : a < n
      · have hp : p ≠ 1 := by omega
        simp only [h2, if_true, hp, if_false]
        cases take with
        | true =>
          simp only [if_true]
          refine ⟨?_, ?_, ?_, by simp, ?_, (by first | omega | (simp; done) | (simp; omega))⟩
          · right; right; right; left
            rcases h with h | h <;> (refine ⟨?_, ?_, ?_, rfl, rfl⟩ <;> grind)
          · intro j m hm
            simp only [MsgOK] at hm ⊢
            refine ⟨hm.1, fun hj => ⟨by have := (hm.2.1 hj).1; omega, by omega⟩, fun hj => ⟨by have := (hm.2.2.1 hj).1; omega, by omega⟩, hm.2.2.2⟩
          · intro j m hm
            simp only [MsgOK] at hm ⊢
            refine ⟨fun hj => by have := hm.1 hj; omega, fun hj => ⟨(hm.2.1 hj).1, fun hh => ?_⟩, fun hj => ⟨(hm.2.2.1 hj).1, fun hh => ?_⟩, hm.2.2.2⟩
            · have := (hm.2.1 hj).2 hh; omega
            · have := (hm.2.2.1 hj).2 hh
              rcases h with h | h <;> grind
          · intro _
            simp only [MsgOK]
            grind
        | false =>
          simp only [Bool.false_eq_true, if_false]
          refine ⟨?_, ?_, ?_, by simp, ?_, (by first | omega | (simp; done) | (simp; omega))⟩
          · right; right; right; right; left
            rcases h with h | h <;> (refine ⟨?_, ?_, ?_, rfl, rfl⟩ <;> grind)
          · intro j m hm
            simp only [MsgOK] at hm ⊢
            refine ⟨hm.1, fun hj => ⟨by have := (hm.2.1 hj).1; omega, by omega⟩, fun hj => ⟨by have := (hm.2.2.1 hj).1; omega, by omega⟩, hm.2.2.2⟩
          · intro j m hm
            simp only [MsgOK] at hm ⊢
            refine ⟨fun hj => by have := hm.1 hj; omega, fun hj => ⟨(hm.2.1 hj).1, fun hh => ?_⟩, fun hj => ⟨(hm.2.2.1 hj).1, fun hh => ?_⟩, hm.2.2.2⟩
            · have := (hm.2.1 hj).2 hh; omega
            · have := (hm.2.2.1 hj).2 hh
              grind
          · intro _
            simp only [MsgOK]
            grind
      · simp only [h2, if_false]
        have hn : n = a := by omega
        by_cases hp : p = 1
        · simp only [hp, if_true]
          rw [hp] at h
          refine ⟨h, fun _ _ hj => hj, fun _ _ hj => hj, by simp, fun _ => ?_, (by first | omega | (simp; done) | (simp; omega))⟩
          simp only [MsgOK]
          rcases h with h | h <;> grind
        · simp only [hp, if_false]
          cases f with
          | false => exact ⟨h, fun _ _ hj => hj, fun _ _ hj => hj, by simp, by simp, (by first | omega | (simp; done) | (simp; omega))⟩
          | true =>
            refine ⟨h, fun _ _ hj => hj, fun _ _ hj => hj, by simp, fun _ => ?_, (by first | omega | (simp; done) | (simp; omega))⟩
            simp only [MsgOK]
            rcases h with h | h <;> grind
  · have m1 := m1 rfl
    clear m0 m2
    unfold hear1 takenL
    simp only [Int.reduceEq, if_false, if_true]
    by_cases hc : p = 2 ∧ a = n
    · rw [if_pos hc]
      have m9 := m1.2 hc
      clear m1
      obtain ⟨hc1, hc2⟩ := hc
      subst hc1
      subst hc2
      refine ⟨?_, ?_, ?_, by simp, by simp, (by first | omega | (simp; done) | (simp; omega))⟩
      · rcases m9 with m9 | m9
        · right; left
          rcases h with h | h <;> grind
        · right; right; left
          rcases h with h | h <;> grind
      · intro j m hm
        simp only [MsgOK] at hm ⊢
        refine ⟨hm.1, fun hj => ⟨(hm.2.1 hj).1, by omega⟩, fun hj => ⟨(hm.2.2.1 hj).1, by omega⟩, hm.2.2.2⟩
      · intro j m hm
        simp only [MsgOK] at hm ⊢
        refine ⟨hm.1, fun hj => ⟨(hm.2.1 hj).1, fun hh => ?_⟩, fun hj => ⟨(hm.2.2.1 hj).1, fun hh => ?_⟩, hm.2.2.2⟩
        · have := (hm.2.1 hj).2 hh; omega
        · have := (hm.2.2.1 hj).2 hh; omega
    · simp only [hc, if_false]
      exact ⟨h, fun _ _ hj => hj, fun _ _ hj => hj, by simp, by simp, (by first | omega | (simp; done) | (simp; omega))⟩
  · have m2 := m2 rfl
    clear m0 m1
    unfold hear1 keptL
    simp only [Int.reduceEq, if_false]
    by_cases hc : p = 2 ∧ a = n
    · rw [if_pos hc]
      have m9 := m2.2 hc
      clear m2
      obtain ⟨hc1, hc2⟩ := hc
      subst hc1
      subst hc2
      refine ⟨?_, ?_, ?_, by simp, by simp, (by first | omega | (simp; done) | (simp; omega))⟩
      · left; left
        rcases h with h | h <;> grind
      · intro j m hm
        simp only [MsgOK] at hm ⊢
        refine ⟨hm.1, fun hj => ⟨(hm.2.1 hj).1, by omega⟩, fun hj => ⟨(hm.2.2.1 hj).1, by omega⟩, hm.2.2.2⟩
      · intro j m hm
        simp only [MsgOK] at hm ⊢
        refine ⟨hm.1, fun hj => ⟨(hm.2.1 hj).1, fun hh => ?_⟩, fun hj => ⟨(hm.2.2.1 hj).1, fun hh => ?_⟩, hm.2.2.2⟩
        · have := (hm.2.1 hj).2 hh; omega
        · have := (hm.2.2.1 hj).2 hh; omega
    · simp only [hc, if_false]
      exact ⟨h, fun _ _ hj => hj, fun _ _ hj => hj, by simp, by simp, (by first | omega | (simp; done) | (simp; omega))⟩
/-- What the law SeamOne looks at. -/
theorem shape_one {x y : Rob} (h : Shape x y) : ¬ (x.1 = 1 ∧ y.1 = 1) ∧ ¬ (x.1 = 0 ∧ y.1 = 0) ∧ x.2.1 - y.2.1 ≤ 1 ∧ y.2.1 - x.2.1 ≤ 1 ∧ ¬ (x.1 = 1 ∧ x.2.1 < y.2.1) ∧ ¬ (y.1 = 1 ∧ y.2.1 < x.2.1) := by
  rcases h with h | h <;> (simp only [Shape1] at h; omega)
/-- A pass that was heard once changes nothing any more, and has the same answer, whether offers are taken or not. -/
theorem hear_twice {x y : Rob} (h : Shape x y) {k n : Int} (hm : MsgOK x y k n) (take t1 t2 : Bool) :
    hear1 (hear1 x k n take).1 k n t1 = hear1 (hear1 x k n take).1 k n t2 ∧ (hear1 (hear1 x k n take).1 k n t1).1 = (hear1 x k n take).1 := by
  obtain ⟨p, a, f⟩ := x
  obtain ⟨q, b, g⟩ := y
  obtain ⟨m0, m1, m2, mk⟩ := hm
  simp only [Shape, Shape1] at h
  simp only at m0 m1 m2
  rcases mk with rfl | rfl | rfl
  · have m0 := m0 rfl
    have key : ∀ r : Rob, n ≤ r.2.1 → offeredL r n t1 = offeredL r n t2 ∧ (offeredL r n t1).1 = r := by
      intro r hr
      unfold offeredL
      have : ¬ r.2.1 < n := by omega
      simp only [this, if_false]
      grind
    have hle : n ≤ (offeredL (p, a, f) n take).1.2.1 := by
      unfold offeredL
      simp only
      have hp : a < n → p ≠ 1 := by omega
      grind
    simpa [hear1] using key _ hle
  · simp only [hear1, Int.reduceEq, if_false, if_true, true_and]
    unfold takenL
    split <;> simp_all
  · simp only [hear1, Int.reduceEq, if_false, true_and]
    unfold keptL
    split <;> simp_all
end Go.Proofs.YtfofmbmmighdiaaDoor
