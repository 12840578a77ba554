
/- Seam, plain: two desks' lists of robots and the passes between them. -/
import Derived.Test.YtfofmbmmighdiaaDoorSeamNp
import Derived.Test.YtfofmbmmighdiaaDoorSeamNd
set_option linter.unusedSimpArgs false
set_option linter.unusedVariables false
namespace Go.Proofs.YtfofmbmmighdiaaDoor
open Go.RowKit Go.IntWalk

theorem getR_set {rs : List Rob} {i : Int} (r : Rob) (h0 : 0 ≤ i) (h1 : i < rs.length) (j : Int) : getR (setR rs i r) j = if j = i then r else getR rs j := by
  obtain ⟨k, rfl⟩ : ∃ k : Nat, i = k := ⟨i.toNat, by omega⟩
  rw [setR_nat]
  unfold getR
  simp only [List.length_set]
  by_cases hj : 0 ≤ j ∧ j < rs.length
  · obtain ⟨l, rfl⟩ : ∃ l : Nat, j = l := ⟨j.toNat, by omega⟩
    have hl : l < rs.length := by omega
    rw [if_pos hj]
    by_cases e : l = k
    · subst e
      simp [hl]
    · have e' : ¬ ((l : Int) = (k : Int)) := by omega
      rw [if_neg e', if_pos hj]
      simp [List.getElem?_set_ne (Ne.symm e)]
  · rw [if_neg hj]
    have e' : ¬ (j = (k : Int)) := by omega
    rw [if_neg e', if_neg hj]
/-- A pass to the side of x. -/
def PkTo (x y : List Rob) (n : Nat) (m : Pas) : Prop := 0 ≤ m.2.1 ∧ m.2.1 < n ∧ 0 ≤ m.2.2 ∧ MsgOK (getR x m.2.1) (getR y m.2.1) m.1 m.2.2
/-- The side of x has become x'. -/
structure Stp (M : Int) (x y x' : List Rob) (n : Nat) : Prop where
  len : x'.length = n
  ok : ∀ r ∈ x', RobOK M r
  sh : ∀ i : Int, 0 ≤ i → i < n → Shape (getR x' i) (getR y i)
  tx : ∀ m, PkTo x y n m → PkTo x' y n m
  fy : ∀ m, PkTo y x n m → PkTo y x' n m
structure Two (M : Int) (x y : List Rob) (n : Nat) : Prop where
  lx : x.length = n
  ly : y.length = n
  ox : ∀ r ∈ x, RobOK M r
  oy : ∀ r ∈ y, RobOK M r
  sh : ∀ i : Int, 0 ≤ i → i < n → Shape (getR x i) (getR y i)
theorem Two.symm {M : Int} {x y : List Rob} {n : Nat} (h : Two M x y n) : Two M y x n := ⟨h.ly, h.lx, h.oy, h.ox, fun i a b => (h.sh i a b).symm⟩
theorem stp_set {M : Int} {x y : List Rob} {n : Nat} (h : Two M x y n) {i : Int} (h0 : 0 ≤ i) (h1 : i < n) {r : Rob} {M' : Int} (hM : M ≤ M') (hr : RobOK M' r) (hs : Shape r (getR y i)) (ht : ∀ k m, MsgOK (getR x i) (getR y i) k m → MsgOK r (getR y i) k m)
    (hf : ∀ k m, MsgOK (getR y i) (getR x i) k m → MsgOK (getR y i) r k m) : Stp M' x y (setR x i r) n := by
  have hx : i < x.length := by rw [h.lx]; exact h1
  refine ⟨by rw [setR_len, h.lx], setR_ok (fun q hq => (h.ox q hq).mono hM) hr i, fun j j0 j1 => ?_, fun m hm => ?_, fun m hm => ?_⟩
  · rw [getR_set r h0 hx]
    split
    · rename_i e; subst e; exact hs
    · exact h.sh j j0 j1
  · obtain ⟨a, b, c, d⟩ := hm
    refine ⟨a, b, c, ?_⟩
    rw [getR_set r h0 hx]
    split
    · rename_i e; rw [e] at d ⊢; exact ht _ _ d
    · exact d
  · obtain ⟨a, b, c, d⟩ := hm
    refine ⟨a, b, c, ?_⟩
    rw [getR_set r h0 hx]
    split
    · rename_i e; rw [e] at d ⊢; exact hf _ _ d
    · exact d
theorem stp_same {M M' : Int} {x y : List Rob} {n : Nat} (h : Two M x y n) (hM : M ≤ M') : Stp M' x y x n := ⟨h.lx, fun r hr => (h.ox r hr).mono hM, h.sh, fun _ h => h, fun _ h => h⟩
theorem Stp.two {M M' : Int} {x y x' : List Rob} {n : Nat} (s : Stp M' x y x' n) (h : Two M x y n) (hM : M ≤ M') : Two M' x' y n := ⟨s.len, h.ly, s.ok, fun r hr => (h.oy r hr).mono hM, s.sh⟩
theorem side_offer {M : Int} {x y : List Rob} {n : Nat} (hM : 0 ≤ M) (h : Two M x y n) (i : Int) : Stp (M + 1) x y (offerL x i).1 n ∧ ((offerL x i).2.2 = 0 → PkTo y (offerL x i).1 n (offerL x i).2.1) := by
  unfold offerL
  by_cases hi : i < 0 ∨ (x.length : Int) ≤ i
  · rw [if_pos hi]
    exact ⟨stp_same h (by omega), by simp⟩
  · rw [if_neg hi]
    by_cases hp : (getR x i).1 ≠ 1
    · rw [if_pos hp]
      exact ⟨stp_same h (by omega), by simp⟩
    · rw [if_neg hp]
      have hp : (getR x i).1 = 1 := by simpa using hp
      have h0 : 0 ≤ i := by omega
      have h1 : i < n := by have := h.lx; omega
      have hx : i < x.length := by omega
      obtain ⟨a, b, c, d⟩ := shape_offer (h.sh i h0 h1) hp
      have hok := getR_ok hM h.ox i
      refine ⟨stp_set h h0 h1 (by omega) ⟨by simp, by have := hok.n; simp only; omega, fun e => by have := hok.f e; omega⟩ a b c, fun _ => ⟨h0, h1, ?_, ?_⟩⟩
      · have := hok.n; simp only; omega
      · simp only
        rw [getR_set _ h0 hx, if_pos rfl]
        exact d
theorem side_again {M : Int} {x y : List Rob} {n : Nat} (hM : 0 ≤ M) (h : Two M x y n) (i : Int) (he : (againL x i).2 = 0) : PkTo y x n (againL x i).1 := by
  unfold againL at *
  by_cases hi : i < 0 ∨ (x.length : Int) ≤ i
  · rw [if_pos hi] at he; simp at he
  · rw [if_neg hi] at he ⊢
    by_cases hp : (getR x i).1 ≠ 2
    · rw [if_pos hp] at he; simp at he
    · rw [if_neg hp]
      have := h.lx
      exact ⟨by simp only; omega, by simp only; omega, (getR_ok hM h.ox i).n.1, msg_again⟩
theorem PkTo.kind {x y : List Rob} {n : Nat} {m : Pas} (h : PkTo x y n m) : m.1 = 0 ∨ m.1 = 1 ∨ m.1 = 2 := h.2.2.2.2.2.2
theorem PkTo.le {M : Int} {x y : List Rob} {n : Nat} {m : Pas} (hM : 0 ≤ M) (h : PkTo x y n m) (t : Two M x y n) : m.2.2 ≤ M := by
  have a := (getR_ok hM t.ox m.2.1).n
  have b := (getR_ok hM t.oy m.2.1).n
  obtain ⟨_, _, _, m0, m1, m2, mk⟩ := h
  rcases mk with e | e | e
  · have := m0 e; omega
  · have := (m1 e).1; omega
  · have := (m2 e).1; omega
theorem hearL_eq {x : List Rob} {m : Pas} (h0 : 0 ≤ m.2.1) (h1 : m.2.1 < x.length) (hk : m.1 = 0 ∨ m.1 = 1 ∨ m.1 = 2) (take : Bool) :
    hearL x m take = (setR x m.2.1 (hear1 (getR x m.2.1) m.1 m.2.2 take).1, if (hear1 (getR x m.2.1) m.1 m.2.2 take).2.1 < 0 then (0, 0, 0) else ((hear1 (getR x m.2.1) m.1 m.2.2 take).2.1, m.2.1, m.2.2), decide (0 ≤ (hear1 (getR x m.2.1) m.1 m.2.2 take).2.1), (hear1 (getR x m.2.1) m.1 m.2.2 take).2.2) := by
  unfold hearL hear1
  rw [if_neg (by omega)]
  rcases hk with e | e | e <;> simp [e]
theorem side_hear {M : Int} {x y : List Rob} {n : Nat} (hM : 0 ≤ M) (h : Two M x y n) {m : Pas} (hm : PkTo x y n m) (take : Bool) :
    (hearL x m take).2.2.2 = 0 ∧ Stp M x y (hearL x m take).1 n ∧ ((hearL x m take).2.2.1 = true → PkTo y (hearL x m take).1 n (hearL x m take).2.1) := by
  have hle := hm.le hM h
  have hk := hm.kind
  obtain ⟨h0, h1, h2, h3⟩ := hm
  have hx : m.2.1 < x.length := by rw [h.lx]; exact h1
  obtain ⟨a, b, c, d, e, _⟩ := shape_hear (h.sh _ h0 h1) h3 take
  have hok := hearL_ok hM h.ox m take hle
  rw [hearL_eq h0 hx hk] at hok ⊢
  have hr : RobOK M (hear1 (getR x m.2.1) m.1 m.2.2 take).1 := by
    have := getR_ok hM hok m.2.1
    rwa [getR_set _ h0 hx, if_pos rfl] at this
  refine ⟨d, stp_set h h0 h1 (Int.le_refl _) hr a b c, fun hh => ?_⟩
  have hh : 0 ≤ (hear1 (getR x m.2.1) m.1 m.2.2 take).2.1 := by simpa using hh
  rw [if_neg (by omega)]
  refine ⟨h0, h1, h2, ?_⟩
  simp only
  rw [getR_set _ h0 hx, if_pos rfl]
  exact e hh
/-- A packet between the desks. -/
def PkOK (ra rb : List Rob) (n : Nat) (p : Pk) : Prop := ∃ m : Pas, p.2.2 = bs (encP m) ∧ ((p.1 = 1 ∧ p.2.1 = 0 ∧ PkTo ra rb n m) ∨ (p.1 = 0 ∧ p.2.1 = 1 ∧ PkTo rb ra n m))
/-- The whole state. -/
structure Inv (M : Int) (n : Nat) (ra rb : List Rob) (F : List Pk) (sp : Int) : Prop where
  t : Two M ra rb n
  f : ∀ p ∈ F, PkOK ra rb n p
  l : F.length ≤ 500
  s : sp = 0 ∨ sp = 1
/-- One act of any kind. -/
structure Nxt (M : Int) (n : Nat) (ra rb : List Rob) (ra' rb' : List Rob) (F' : List Pk) (sp' : Int) : Prop where
  i : Inv (M + 1) n ra' rb' F' sp'
  k : ∀ p, PkOK ra rb n p → PkOK ra' rb' n p
theorem PkOK.ends {ra rb : List Rob} {n : Nat} {p : Pk} (h : PkOK ra rb n p) : Ends p.1 p.2.1 := by
  obtain ⟨m, _, h | h⟩ := h
  · exact .inr ⟨h.1, h.2.1⟩
  · exact .inl ⟨h.1, h.2.1⟩
theorem PkTo.i64 {M : Int} {x y : List Rob} {n : Nat} {m : Pas} (hM : 0 ≤ M) (hM2 : M ≤ 1000000) (hn : n ≤ 1000) (h : PkTo x y n m) (t : Two M x y n) : I64 m.1 ∧ I64 m.2.1 ∧ I64 m.2.2 := by
  have a := h.le hM t
  have b := h.kind
  obtain ⟨h0, h1, h2, _⟩ := h
  unfold I64
  omega
theorem Stp.pkA {M : Int} {ra rb ra' : List Rob} {n : Nat} (s : Stp M ra rb ra' n) {p : Pk} (h : PkOK ra rb n p) : PkOK ra' rb n p := by
  obtain ⟨m, e, h | h⟩ := h
  · exact ⟨m, e, .inl ⟨h.1, h.2.1, s.tx m h.2.2⟩⟩
  · exact ⟨m, e, .inr ⟨h.1, h.2.1, s.fy m h.2.2⟩⟩
theorem Stp.pkB {M : Int} {ra rb rb' : List Rob} {n : Nat} (s : Stp M rb ra rb' n) {p : Pk} (h : PkOK ra rb n p) : PkOK ra rb' n p := by
  obtain ⟨m, e, h | h⟩ := h
  · exact ⟨m, e, .inl ⟨h.1, h.2.1, s.fy m h.2.2⟩⟩
  · exact ⟨m, e, .inr ⟨h.1, h.2.1, s.tx m h.2.2⟩⟩
theorem sendN_mem {F : List Pk} {sp : Int} {p q : Pk} (h : q ∈ sendN F sp p) : q ∈ F ∨ q = p := by
  unfold sendN at h
  split at h
  · simpa using h
  · exact .inl h
theorem sendN_len {F : List Pk} {sp : Int} {p : Pk} (h : F.length ≤ 500) : (sendN F sp p).length ≤ 500 := by
  unfold sendN
  split
  · rename_i hc; simp; omega
  · exact h
theorem dropN_mem {F : List Pk} {i : Int} {q : Pk} (h : q ∈ dropN F i) : q ∈ F := by
  unfold dropN at h
  split at h
  · exact List.mem_of_mem_eraseIdx h
  · exact h
theorem dropN_len {F : List Pk} {i : Int} (h : F.length ≤ 500) : (dropN F i).length ≤ 500 := by
  unfold dropN
  split
  · exact Nat.le_trans (List.length_eraseIdx_le _ _) h
  · exact h
end Go.Proofs.YtfofmbmmighdiaaDoor
