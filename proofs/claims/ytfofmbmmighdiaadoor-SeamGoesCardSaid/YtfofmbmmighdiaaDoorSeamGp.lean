
/- Seam, plain: what brings each robot on is in flight. -/
import Derived.Test.YtfofmbmmighdiaaDoorSeamNr
import Derived.Test.YtfofmbmmighdiaaDoorSeamNg
import Derived.Test.YtfofmbmmighdiaaDoorSeamNi
set_option linter.unusedSimpArgs false
set_option linter.unusedVariables false
namespace Go.Proofs.YtfofmbmmighdiaaDoor
open Go.RowKit Go.IntWalk

def Live1 (x y : Rob) (tx ty : Int → Int → Prop) : Prop :=
  (x.1 = 1 ∧ x.2.1 = y.2.1 ∧ x.2.2 = false ∧ y.1 = 0) ∨ (x.1 = 2 ∧ x.2.1 = y.2.1 + 1 ∧ x.2.2 = false ∧ y.1 = 0 ∧ ty 0 x.2.1) ∨
  (x.1 = 2 ∧ x.2.1 = y.2.1 ∧ x.2.2 = false ∧ y.2.2 = false ∧ y.1 = 1 ∧ (ty 0 x.2.1 ∨ tx 1 x.2.1)) ∨ (x.1 = 2 ∧ x.2.1 = y.2.1 ∧ x.2.2 = false ∧ y.1 = 0 ∧ y.2.2 = true ∧ (ty 0 x.2.1 ∨ tx 2 x.2.1)) ∨
  (x.1 = 2 ∧ y.1 = 2 ∧ y.2.1 = x.2.1 + 1 ∧ x.2.2 = false ∧ y.2.2 = false ∧ tx 0 y.2.1)
def Live (x y : Rob) (tx ty : Int → Int → Prop) : Prop := Live1 x y tx ty ∨ Live1 y x ty tx
set_option maxRecDepth 100000 in
set_option maxHeartbeats 1000000 in
theorem live_hear {x y : Rob} {tx ty tx' ty' : Int → Int → Prop} {k n : Int} (h : Live x y tx ty) (hm : MsgOK x y k n) (hX : ∀ j m, tx j m → ¬ (j = k ∧ m = n) → tx' j m) (hY : ∀ j m, ty j m → ty' j m)
    (hA : 0 ≤ (hear1 x k n true).2.1 → ty' (hear1 x k n true).2.1 n) : Live (hear1 x k n true).1 y tx' ty' := by
  obtain ⟨p, a, f⟩ := x
  obtain ⟨q, b, g⟩ := y
  obtain ⟨m0, m1, m2, mk⟩ := hm
  simp only at m0 m1 m2
  simp only [Live, Live1] at h
  rcases mk with rfl | rfl | rfl
  · have M0 := m0 rfl
    clear m0 m1 m2
    have e : hear1 (p, a, f) 0 n true = offeredL (p, a, f) n true := by simp [hear1]
    rw [e] at hA ⊢
    have hX1 : ∀ m, tx 1 m → tx' 1 m := fun m h => hX 1 m h (by simp)
    have hX2 : ∀ m, tx 2 m → tx' 2 m := fun m h => hX 2 m h (by simp)
    unfold offeredL at hA ⊢
    simp only [Live, Live1]
    simp only at hA
    by_cases c1 : n < a
    · rw [if_pos c1]
      clear hA e hX2
      simp only
      rcases h with (h | h | ⟨h1, h2, h3, h4, h5, h6 | h6⟩ | ⟨h1, h2, h3, h4, h5, h6 | h6⟩ | h) | (h | h | h | h | h)
      all_goals grind
    · rw [if_neg c1] at hA ⊢
      by_cases c2 : a < n
      · rw [if_pos c2] at hA ⊢
        clear e
        rcases h with (h | h | ⟨h1, h2, h3, h4, h5, h6 | h6⟩ | ⟨h1, h2, h3, h4, h5, h6 | h6⟩ | h) | (h | h | h | h | h)
        all_goals grind
      · rw [if_neg c2] at hA ⊢
        obtain rfl : a = n := by omega
        clear c1 c2 e
        rcases h with (h | h | ⟨h1, h2, h3, h4, h5, h6 | h6⟩ | ⟨h1, h2, h3, h4, h5, h6 | h6⟩ | h) | (h | h | h | h | h)
        all_goals (try grind)
        · rw [if_neg (show ¬ p = 1 by omega), if_neg (show ¬ f = true by simp [h3])]
          simp only
          left; right; right; left
          exact ⟨h1, h2, h3, h4, h5, Or.inl (hY _ _ h6)⟩
        · rw [if_neg (show ¬ p = 1 by omega), if_neg (show ¬ f = true by simp [h3])]
          simp only
          left; right; right; left
          exact ⟨h1, h2, h3, h4, h5, Or.inr (hX1 _ h6)⟩
  · have M1 := m1 rfl
    clear m0 m1 m2
    have e : hear1 (p, a, f) 1 n true = (takenL (p, a, f) n, -1, 0) := by simp [hear1]
    rw [e] at hA ⊢
    unfold takenL at hA ⊢
    simp only [Live, Live1]
    rcases h with (h | h | h | h | h) | (h | h | h | h | h)
    all_goals grind
  · have M2 := m2 rfl
    clear m0 m1 m2
    have e : hear1 (p, a, f) 2 n true = (keptL (p, a, f) n, -1, 0) := by simp [hear1]
    rw [e] at hA ⊢
    unfold keptL at hA ⊢
    simp only [Live, Live1]
    rcases h with (h | h | h | h | h) | (h | h | h | h | h)
    all_goals grind
/-- The pass that a packet bears. -/
def dec (p : Pk) : Option Pas := readPR p.2.2.data.toList
theorem dec_enc (a b : Int) (m : Pas) (h1 : I64 m.1) (h2 : I64 m.2.1) (h3 : I64 m.2.2) : dec (a, b, bs (encP m)) = some m := by
  unfold dec
  rw [show (bs (encP m)).data.toList = encP m by simp [bs], rp_encPn m h1 h2 h3]
def toS (F : List Pk) (side i k n : Int) : Prop := ∃ p ∈ F, p.2.1 = side ∧ dec p = some (k, i, n)
def LiveAll (n : Nat) (ra rb : List Rob) (F : List Pk) : Prop := ∀ i : Int, 0 ≤ i → i < n → Live (getR ra i) (getR rb i) (toS F 0 i) (toS F 1 i)
def wtP (p : Pk) : Nat := match dec p with
  | some m => if m.1 = 0 then 2 else 1
  | none => 1
def wtF (F : List Pk) : Nat := (F.map wtP).sum
theorem wtF_cons (p : Pk) (F : List Pk) : wtF (p :: F) = wtP p + wtF F := by simp [wtF]
theorem wtF_snoc (p : Pk) (F : List Pk) : wtF (F ++ [p]) = wtF F + wtP p := by simp [wtF]
theorem wtP_pos (p : Pk) : 1 ≤ wtP p ∧ wtP p ≤ 2 := by
  unfold wtP
  split
  · split <;> omega
  · omega
theorem wtF_len (F : List Pk) : F.length ≤ wtF F := by
  induction F with
  | nil => simp [wtF]
  | cons p F ih => rw [wtF_cons]; have := (wtP_pos p).1; simp; omega
theorem live_of_shape {x y : Rob} {tx ty : Int → Int → Prop} (h : Shape x y) (hx : x.1 = 2 → ty 0 x.2.1) (hy : y.1 = 2 → tx 0 y.2.1) : Live x y tx ty := by
  have key : ∀ {x y : Rob} {tx ty : Int → Int → Prop}, Shape1 x y → (x.1 = 2 → ty 0 x.2.1) → (y.1 = 2 → tx 0 y.2.1) → Live1 x y tx ty := by
    intro x y tx ty h hx hy
    rcases h with ⟨a, b, c, d⟩ | ⟨a, b, c, d⟩ | ⟨a, b, c, d, e⟩ | ⟨a, b, c, d, e⟩ | ⟨a, b, c, d, e⟩
    · exact .inl ⟨a, b, c, d⟩
    · exact .inr (.inl ⟨a, b, c, d, hx a⟩)
    · exact .inr (.inr (.inl ⟨a, b, c, d, e, .inl (hx a)⟩))
    · exact .inr (.inr (.inr (.inl ⟨a, b, c, d, e, .inl (hx a)⟩)))
    · exact .inr (.inr (.inr (.inr ⟨a, b, c, d, e, hy b⟩)))
  rcases h with h | h
  · exact .inl (key h hx hy)
  · exact .inr (key h hy hx)
theorem live_settled {x y : Rob} {tx ty : Int → Int → Prop} (h : Live x y tx ty) (hx : ∀ k n, ¬ tx k n) (hy : ∀ k n, ¬ ty k n) : x.2.1 = y.2.1 ∧ ((x.1 = 1 ∧ x.2.2 = false ∧ y.1 = 0) ∨ (y.1 = 1 ∧ y.2.2 = false ∧ x.1 = 0)) := by
  rcases h with (⟨a, b, c, d⟩ | ⟨a, b, c, d, e⟩ | ⟨a, b, c, d, e, f⟩ | ⟨a, b, c, d, e, f⟩ | ⟨a, b, c, d, e, f⟩) | (⟨a, b, c, d⟩ | ⟨a, b, c, d, e⟩ | ⟨a, b, c, d, e, f⟩ | ⟨a, b, c, d, e, f⟩ | ⟨a, b, c, d, e, f⟩)
  · exact ⟨b, .inl ⟨a, c, d⟩⟩
  · exact absurd e (hy _ _)
  · exact f.elim (fun h => absurd h (hy _ _)) (fun h => absurd h (hx _ _))
  · exact f.elim (fun h => absurd h (hy _ _)) (fun h => absurd h (hx _ _))
  · exact absurd f (hx _ _)
  · exact ⟨b.symm, .inr ⟨a, c, d⟩⟩
  · exact absurd e (hx _ _)
  · exact f.elim (fun h => absurd h (hx _ _)) (fun h => absurd h (hy _ _))
  · exact f.elim (fun h => absurd h (hx _ _)) (fun h => absurd h (hy _ _))
  · exact absurd f (hy _ _)
theorem Live.mono {x y : Rob} {tx ty tx' ty' : Int → Int → Prop} (h : Live x y tx ty) (hx : ∀ j k, tx j k → tx' j k) (hy : ∀ j k, ty j k → ty' j k) : Live x y tx' ty' := by
  rcases h with (⟨a, b, c, d⟩ | ⟨a, b, c, d, e⟩ | ⟨a, b, c, d, e, f⟩ | ⟨a, b, c, d, e, f⟩ | ⟨a, b, c, d, e, f⟩) | (⟨a, b, c, d⟩ | ⟨a, b, c, d, e⟩ | ⟨a, b, c, d, e, f⟩ | ⟨a, b, c, d, e, f⟩ | ⟨a, b, c, d, e, f⟩)
  · exact .inl (.inl ⟨a, b, c, d⟩)
  · exact .inl (.inr (.inl ⟨a, b, c, d, hy _ _ e⟩))
  · exact .inl (.inr (.inr (.inl ⟨a, b, c, d, e, f.imp (hy _ _) (hx _ _)⟩)))
  · exact .inl (.inr (.inr (.inr (.inl ⟨a, b, c, d, e, f.imp (hy _ _) (hx _ _)⟩))))
  · exact .inl (.inr (.inr (.inr (.inr ⟨a, b, c, d, e, hx _ _ f⟩))))
  · exact .inr (.inl ⟨a, b, c, d⟩)
  · exact .inr (.inr (.inl ⟨a, b, c, d, hx _ _ e⟩))
  · exact .inr (.inr (.inr (.inl ⟨a, b, c, d, e, f.imp (hx _ _) (hy _ _)⟩)))
  · exact .inr (.inr (.inr (.inr (.inl ⟨a, b, c, d, e, f.imp (hx _ _) (hy _ _)⟩))))
  · exact .inr (.inr (.inr (.inr (.inr ⟨a, b, c, d, e, hy _ _ f⟩))))
/-- One robot's part of a hearing, for the whole lists. -/
theorem liveAll_hear {M : Int} {n : Nat} {x y : List Rob} {T : List Pk} {p : Pk} {m : Pas} {a : Int} (ht : Two M x y n) (hm : PkTo x y n m) (hd : dec p = some m) (hp : p.2.1 = a) (b : Int)
    (h : ∀ i : Int, 0 ≤ i → i < n → Live (getR x i) (getR y i) (toS (p :: T) a i) (toS (p :: T) b i)) (hab : a ≠ b) {T' : List Pk} (hT : ∀ q ∈ T, q ∈ T')
    (hA : 0 ≤ (hear1 (getR x m.2.1) m.1 m.2.2 true).2.1 → toS T' b m.2.1 (hear1 (getR x m.2.1) m.1 m.2.2 true).2.1 m.2.2) :
    ∀ i : Int, 0 ≤ i → i < n → Live (getR (hearL x m true).1 i) (getR y i) (toS T' a i) (toS T' b i) := by
  intro i h0 h1
  obtain ⟨q0, q1, q2, q3⟩ := hm
  have hx : m.2.1 < x.length := by rw [ht.lx]; exact q1
  rw [hearL_eq q0 hx q3.2.2.2]
  simp only
  rw [getR_set _ q0 hx]
  have keepB : ∀ j k, toS (p :: T) b i j k → toS T' b i j k := by
    rintro j k ⟨q, hq, e1, e2⟩
    rcases List.mem_cons.1 hq with rfl | hq
    · exact absurd (hp.symm.trans e1) hab
    · exact ⟨q, hT q hq, e1, e2⟩
  by_cases e : i = m.2.1
  · rw [if_pos e]
    subst e
    refine live_hear (h _ h0 h1) q3 ?_ keepB hA
    rintro j k ⟨q, hq, e1, e2⟩ hne
    rcases List.mem_cons.1 hq with rfl | hq
    · rw [hd] at e2
      injection e2 with e2
      rw [e2] at hne
      exact absurd ⟨rfl, rfl⟩ hne
    · exact ⟨q, hT q hq, e1, e2⟩
  · rw [if_neg e]
    have keepA : ∀ j k, toS (p :: T) a i j k → toS T' a i j k := by
      rintro j k ⟨q, hq, e1, e2⟩
      rcases List.mem_cons.1 hq with rfl | hq
      · rw [hd] at e2
        injection e2 with e2
        exact absurd (by rw [e2]) e
      · exact ⟨q, hT q hq, e1, e2⟩
    exact (h i h0 h1).mono keepA (fun j k => keepB j k)
end Go.Proofs.YtfofmbmmighdiaaDoor
