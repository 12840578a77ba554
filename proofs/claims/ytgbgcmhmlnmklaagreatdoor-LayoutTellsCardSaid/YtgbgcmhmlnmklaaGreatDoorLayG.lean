
/- Layouts: the order of ranks (plain), and what the law on ranks keeps in memory. -/
import Derived.Test.YtgbgcmhmlnmklaaGreatDoorLayF
set_option linter.unusedSimpArgs false
set_option linter.unusedVariables false
namespace Go.Proofs.YtgbgcmhmlnmklaaGreatDoor
open Go.RowKit Go.IntWalk

theorem lexB_erase : ∀ (a b : List Bool) (t : Nat) (ha : t < a.length) (hb : t < b.length), a[t] = b[t] → lexB (a.eraseIdx t) (b.eraseIdx t) = lexB a b
  | x :: a, y :: b, 0, _, _, h => by
    simp only [List.getElem_cons_zero] at h
    subst h; simp [lexB]
  | x :: a, y :: b, t+1, ha, hb, h => by
    simp only [List.eraseIdx_cons_succ, lexB, lexB_erase a b t (by simpa using ha) (by simpa using hb) (by simpa using h)]
theorem rankN_before {a b : List Bool} {s t : Nat} (ha : RightN a s) (hb : RightN b t) (hl : a.length = b.length) (hc : a.count true = b.count true) :
    (decide ((rankN a s : Int) < rankN b t)) = beforeL a b s t := by
  have h1 := ha.count
  have h2 := hb.count
  have la := rankO_lt (restL a s 0)
  have lb := rankO_lt (restL b t 0)
  rw [h1.2.2.1, h1.2.2.2] at la
  rw [h2.2.2.1, h2.2.2.2] at lb
  unfold beforeL rankN
  rw [← hl, ← hc] at lb ⊢
  obtain ⟨_, _, hs, hs'⟩ := ha
  obtain ⟨_, _, ht, ht'⟩ := hb
  by_cases e : s = t
  · subst e
    rw [if_pos rfl]
    have h5 := rankO_lex (restL a s 0) (restL b s 0) (by rw [h1.2.2.1, h2.2.2.1, hl]) (by rw [h1.2.2.2, h2.2.2.2, hc])
    have h6 : lexB (restL a s 0) (restL b s 0) = lexB a b := by
      simp only [restL, Nat.zero_le, if_true, List.drop_zero, Nat.sub_zero]
      exact lexB_erase a b s hs ht (by rw [hs', ht'])
    rw [h6] at h5
    cases hx : lexB a b with
    | true => rw [hx] at h5; have := h5.2 rfl; simp; omega
    | false => rw [hx] at h5; have : ¬ (rankO (restL a s 0) < rankO (restL b s 0)) := fun h => by cases h5.1 h
               simp; omega
  · rw [if_neg (by omega)]
    congr 1
    apply propext
    have m1 : s < t → (s+1) * binom (a.length - 1) (a.count true - 1) ≤ t * binom (a.length - 1) (a.count true - 1) := fun h => Nat.mul_le_mul_right _ h
    have m2 : t < s → (t+1) * binom (a.length - 1) (a.count true - 1) ≤ s * binom (a.length - 1) (a.count true - 1) := fun h => Nat.mul_le_mul_right _ h
    rw [Nat.add_mul, Nat.one_mul] at m1 m2
    constructor
    · intro h
      by_cases h' : s < t
      · omega
      · have := m2 (by omega); omega
    · intro h
      have := m1 (by omega); omega
theorem rankN_same {a b : List Bool} {s t : Nat} (ha : RightN a s) (hb : RightN b t) (hl : a.length = b.length) (hc : a.count true = b.count true) :
    (decide ((rankN a s : Int) = rankN b t)) = sameL a b s t := by
  unfold sameL
  by_cases h : rankN a s = rankN b t
  · obtain ⟨rfl, rfl⟩ := rankN_inj ha hb hl hc h
    simp
  · have : ¬ (a = b ∧ s = t) := by rintro ⟨rfl, rfl⟩; exact h rfl
    rw [Bool.eq_iff_iff]
    simp only [decide_eq_true_eq, Bool.and_eq_true]
    constructor
    · intro h'; exact absurd (by omega) h
    · rintro ⟨h1, h2⟩; exact absurd ⟨h2, by omega⟩ this
theorem rightN_of {l : List Bool} {t : Int} (h : rightL l t = true) : ∃ m : Nat, t = m ∧ RightN l m := by
  obtain ⟨h1, h2, h3, h4, h5⟩ := (rightL_iff l t).1 h
  obtain ⟨m, rfl⟩ := Int.eq_ofNat_of_zero_le h3
  refine ⟨m, rfl, h1, h2, by omega, ?_⟩
  simpa [List.getD, List.getElem?_eq_getElem (show m < l.length by omega)] using h5
theorem rightL_of {l : List Bool} {m : Nat} (h : RightN l m) : rightL l m = true := by
  obtain ⟨h1, h2, h3, h4⟩ := h
  rw [rightL_iff]
  exact ⟨h1, h2, by omega, by omega, by simp [List.getD, List.getElem?_eq_getElem h3, h4]⟩
theorem countL_of {l : List Bool} {m : Nat} (h : RightN l m) : countL l.length (l.count true) = (l.length * binom (l.length - 1) (l.count true - 1) : Nat) := by
  have h1 := h.count
  obtain ⟨h2, h3, _⟩ := h
  unfold countL
  rw [if_pos (by omega)]; simp

/-- What the law keeps: the boxes of its two layouts, and what they lead to. -/
structure LR (w wi : World) (A1 A2 : Option Addr) (c1 c2 : Nat) (l1 l2 : List Bool) (t1 t2 : Int) : Prop where
  b : Below w.heap.size w wi
  x : Blk wi w.heap.size 27 #[.slice A1 l1.length c1, .int .i64 t1]
  y : Blk wi (w.heap.size + 1) 27 #[.slice A2 l2.length c2, .int .i64 t2]
  s1 : SlR w w.heap.size A1 l1
  s2 : SlR w w.heap.size A2 l2
section
variable {w wi wj : World} {A1 A2 : Option Addr} {c1 c2 : Nat} {l1 l2 : List Bool} {t1 t2 : Int}
theorem LR.step (h : LR w wi A1 A2 c1 c2 l1 l2 t1 t2) (hb : Below wi.heap.size wi wj) : LR w wj A1 A2 c1 c2 l1 l2 t1 t2 :=
  ⟨h.b.trans (hb.mono h.b.size), h.x.below hb h.x.lt, h.y.below hb h.y.lt, h.s1, h.s2⟩
theorem LR.alloc (h : LR w wi A1 A2 c1 c2 l1 l2 t1 t2) (o : Obj) : LR w (wi.alloc o) A1 A2 c1 c2 l1 l2 t1 t2 :=
  h.step ((Below.refl _ _).alloc (Nat.le_refl _) o)
theorem LR.new (s1 : SlR w w.heap.size A1 l1) (s2 : SlR w w.heap.size A2 l2) :
    LR w ((w.alloc (.cells #[.slice A1 l1.length c1, .int .i64 t1] 27)).alloc (.cells #[.slice A2 l2.length c2, .int .i64 t2] 27)) A1 A2 c1 c2 l1 l2 t1 t2 :=
  ⟨((Below.refl _ w).alloc (Nat.le_refl _) _).alloc (by simp) _, (Blk.new w _ _).alloc _, Blk.new_at (by simp), s1, s2⟩
theorem LR.cells (h : LR w wi A1 A2 c1 c2 l1 l2 t1 t2) : wi.cell? ⟨w.heap.size, 0, none⟩ = some (.slice A1 l1.length c1) ∧ wi.cell? ⟨w.heap.size, 1, none⟩ = some (.int .i64 t1) ∧
    wi.cell? ⟨w.heap.size + 1, 0, none⟩ = some (.slice A2 l2.length c2) ∧ wi.cell? ⟨w.heap.size + 1, 1, none⟩ = some (.int .i64 t2) ∧ w.heap.size < wi.heap.size ∧ w.heap.size + 1 < wi.heap.size :=
  ⟨h.x.cell 0, h.x.cell 1, h.y.cell 0, h.y.cell 1, h.x.lt, h.y.lt⟩
theorem LR.sl1 (h : LR w wi A1 A2 c1 c2 l1 l2 t1 t2) : SlR wi wi.heap.size A1 l1 := (h.s1.below h.b).more h.b.size
theorem LR.sl2 (h : LR w wi A1 A2 c1 c2 l1 l2 t1 t2) : SlR wi wi.heap.size A2 l2 := (h.s2.below h.b).more h.b.size
end
end Go.Proofs.YtgbgcmhmlnmklaaGreatDoor
