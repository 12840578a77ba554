
/- Wire, plain: what is read is what was written; values and their encodings. -/
import Derived.Test.YtbefmjodpndndaaDoorWireM
set_option linter.unusedSimpArgs false
set_option linter.unusedVariables false
namespace Go.Proofs.YtbefmjodpndndaaDoor
open Go.RowKit Go.IntWalk

theorem index_split : ∀ (l : List UInt8) (c : UInt8), 0 ≤ Lib.indexByte l c → l = l.take (Lib.indexByte l c).toNat ++ c :: l.drop ((Lib.indexByte l c).toNat + 1)
  | [], c, h => by simp [Lib.indexByte] at h
  | x :: l, c, h => by
    have ih := index_split l c
    have hge := Lib.indexByte_ge l c
    unfold Lib.indexByte at h ⊢
    by_cases hx : x = c
    · subst hx; simp
    · have hx' : (x == c) = false := by simp [hx]
      rw [hx'] at h ⊢
      simp only [Bool.false_eq_true, if_false] at h ⊢
      by_cases h1 : Lib.indexByte l c = -1
      · rw [h1] at h; simp at h
      · have h1' : (Lib.indexByte l c == -1) = false := by simp [h1]
        rw [h1'] at h ⊢
        simp only [Bool.false_eq_true, if_false] at h ⊢
        have e : (Lib.indexByte l c + 1).toNat = (Lib.indexByte l c).toNat + 1 := by omega
        rw [e, List.take_succ_cons, List.drop_succ_cons, List.cons_append]
        congr 1
        exact ih (by omega)
theorem numL_split {l : List UInt8} {c : UInt8} {m v : Int} {r : List UInt8} (h : numL l c m = some (v, r)) : l = Lib.itoa v ++ c :: r := by
  unfold numL at h
  split at h
  · cases h
  · rename_i h0
    have hi := indexByte_lt (l.take 21) c (by omega)
    have hs := index_split (l.take 21) c (by omega)
    generalize (Lib.indexByte (l.take 21) c).toNat = k at *
    split at h
    · split at h
      · rename_i hv
        injection h with h
        injection h with h1 h2
        subst h1 h2
        have hk : k < (l.take 21).length := by
          rcases Nat.lt_or_ge k (l.take 21).length with h | h
          · exact h
          · exfalso
            have h1 := congrArg List.length hs
            rw [List.take_of_length_le h, List.drop_eq_nil_of_le (by omega)] at h1
            simp at h1
        rw [hv.1]
        have e1 : l = l.take 21 ++ l.drop 21 := (List.take_append_drop 21 l).symm
        have hk21 : k < 21 := by have := List.length_take_le 21 l; omega
        have e2 : l.drop (k + 1) = (l.take 21).drop (k + 1) ++ l.drop 21 := by
          conv => lhs; rw [e1]
          rw [List.drop_append_of_le_length (by omega)]
        rw [e2]
        conv => lhs; rw [e1, hs]
        simp
      · cases h
    · cases h
theorem cutL_split {l r : List UInt8} {c : UInt8} (h : cutL l c = some r) : l = c :: r := by
  cases l with
  | nil => simp [cutL] at h
  | cons x t =>
    simp only [cutL] at h
    split at h
    · rename_i hx
      injection h with h; subst h; rw [hx]
    · cases h
theorem textL_split {l : List UInt8} {s r : List UInt8} (h : textL l = some (s, r)) : l = encT s ++ r := by
  unfold textL at h
  split at h
  · cases h
  · rename_i n l1 hn
    have h1 := numL_split hn
    have h0 := (numL_shorter hn).2
    split at h
    · cases h
    · rename_i hlen
      cases hc : cutL (l1.drop n.toNat) 44 with
      | none => rw [hc] at h; cases h
      | some q =>
        rw [hc] at h
        simp only [Option.map_some, Option.some.injEq, Prod.mk.injEq] at h
        obtain ⟨rfl, rfl⟩ := h
        have h2 := cutL_split hc
        have e : ((l1.take n.toNat).length : Int) = n := by rw [List.length_take]; omega
        unfold encT
        rw [e, h1]
        simp only [List.append_assoc, List.cons_append, List.nil_append]
        rw [← h2, List.take_append_drop]
theorem itemsL_split {α : Type} {f : List UInt8 → Option (α × List UInt8)} {enc : α → List UInt8} (hf : ∀ l x r, f l = some (x, r) → l = enc x ++ r) : ∀ (k : Nat) (l : List UInt8) (xs : List α) (r : List UInt8), itemsL f k l = some (xs, r) → l = (xs.map enc).flatten ++ r ∧ xs.length = k
  | 0, l, xs, r, h => by
    simp only [itemsL, Option.some.injEq, Prod.mk.injEq] at h
    obtain ⟨rfl, rfl⟩ := h
    simp
  | k + 1, l, xs, r, h => by
    rw [itemsL] at h
    cases hx : f l with
    | none => rw [hx] at h; cases h
    | some y =>
      obtain ⟨x, l1⟩ := y
      rw [hx] at h
      simp only at h
      cases hr : itemsL f k l1 with
      | none => rw [hr] at h; cases h
      | some z =>
        obtain ⟨zs, q⟩ := z
        rw [hr] at h
        simp only [Option.map_some, Option.some.injEq, Prod.mk.injEq] at h
        obtain ⟨rfl, rfl⟩ := h
        obtain ⟨e1, e2⟩ := itemsL_split hf k l1 zs q hr
        refine ⟨?_, by simp [e2]⟩
        rw [hf _ _ _ hx, e1]
        simp
theorem listL_split {α : Type} {f : List UInt8 → Option (α × List UInt8)} {enc : α → List UInt8} (hf : ∀ l x r, f l = some (x, r) → l = enc x ++ r) {l : List UInt8} {xs : List α} {r : List UInt8} (h : listL f l = some (xs, r)) : l = encL (xs.map enc) ++ r := by
  unfold listL at h
  split at h
  · cases h
  · rename_i n l1 hn
    have h0 := (numL_shorter hn).2
    have h1 := numL_split hn
    split at h
    · cases h
    · rename_i ys l2 hi
      cases hc : cutL l2 93 with
      | none => rw [hc] at h; cases h
      | some q =>
        rw [hc] at h
        simp only [Option.map_some, Option.some.injEq, Prod.mk.injEq] at h
        obtain ⟨rfl, rfl⟩ := h
        obtain ⟨e1, e2⟩ := itemsL_split hf _ _ _ _ hi
        have h2 := cutL_split hc
        unfold encL
        rw [h1, e1, h2, List.length_map, e2, Int.toNat_of_nonneg h0]
        simp
theorem itemsL_all {α : Type} {f : List UInt8 → Option (α × List UInt8)} {p : α → Prop} {N : Nat} (hf : ∀ l x r, l.length ≤ N → f l = some (x, r) → p x ∧ r.length ≤ l.length) : ∀ (k : Nat) (l : List UInt8) (xs : List α) (r : List UInt8), l.length ≤ N → itemsL f k l = some (xs, r) → (∀ x ∈ xs, p x) ∧ r.length ≤ l.length
  | 0, l, xs, r, hN, h => by
    simp only [itemsL, Option.some.injEq, Prod.mk.injEq] at h
    obtain ⟨rfl, rfl⟩ := h
    simp
  | k + 1, l, xs, r, hN, h => by
    rw [itemsL] at h
    cases hx : f l with
    | none => rw [hx] at h; cases h
    | some y =>
      obtain ⟨x, l1⟩ := y
      rw [hx] at h
      simp only at h
      cases hr : itemsL f k l1 with
      | none => rw [hr] at h; cases h
      | some z =>
        obtain ⟨zs, q⟩ := z
        rw [hr] at h
        simp only [Option.map_some, Option.some.injEq, Prod.mk.injEq] at h
        obtain ⟨rfl, rfl⟩ := h
        obtain ⟨g1, g2⟩ := hf _ _ _ hN hx
        obtain ⟨e1, e2⟩ := itemsL_all hf k l1 zs q (by omega) hr
        refine ⟨fun y hy => ?_, by omega⟩
        rcases List.mem_cons.1 hy with rfl | hy
        · exact g1
        · exact e1 y hy
theorem listL_all {α : Type} {f : List UInt8 → Option (α × List UInt8)} {p : α → Prop} {N : Nat} (hf : ∀ l x r, l.length ≤ N → f l = some (x, r) → p x ∧ r.length ≤ l.length) {l : List UInt8} {xs : List α} {r : List UInt8} (hN : l.length ≤ N) (h : listL f l = some (xs, r)) : (∀ x ∈ xs, p x) ∧ r.length ≤ l.length := by
  unfold listL at h
  split at h
  · cases h
  · rename_i n l1 hn
    have h0 := numL_less hn
    split at h
    · cases h
    · rename_i ys l2 hi
      cases hc : cutL l2 93 with
      | none => rw [hc] at h; cases h
      | some q =>
        rw [hc] at h
        simp only [Option.map_some, Option.some.injEq, Prod.mk.injEq] at h
        obtain ⟨rfl, rfl⟩ := h
        obtain ⟨e1, e2⟩ := itemsL_all hf _ _ _ _ (by omega) hi
        have h2 := cutL_less hc
        exact ⟨e1, by omega⟩
theorem listI_bd {l : List UInt8} {xs : List Int} {r : List UInt8} (h : listL fI l = some (xs, r)) : (∀ x ∈ xs, I64 x) ∧ r.length ≤ l.length :=
  listL_all (N := l.length) (fun l x r _ h => ⟨numL_bd h, (numL_shorter h).1⟩) (Nat.le_refl _) h
theorem listS_bd {l : List UInt8} {xs : List (List UInt8)} {r : List UInt8} (h : listL textL l = some (xs, r)) : (∀ x ∈ xs, x.length ≤ l.length) ∧ r.length ≤ l.length :=
  listL_all (p := fun x => x.length ≤ l.length) (N := l.length) (fun _ x r hN h => ⟨by have := (textL_less h).2; omega, by have := (textL_less h).1; omega⟩) (Nat.le_refl _) h
theorem fI_split (l : List UInt8) (x : Int) (r : List UInt8) (h : fI l = some (x, r)) : l = encI x ++ r := by
  rw [numL_split h, encI]; simp
theorem listI_len {l : List UInt8} {xs : List Int} {r : List UInt8} (h : listL fI l = some (xs, r)) : xs.length ≤ l.length := by
  have e := listL_split (enc := encI) fI_split h
  have h1 : xs.length ≤ (xs.map encI).flatten.length := by
    clear h e
    induction xs with
    | nil => simp
    | cons x xs ih =>
      rw [List.map_cons, List.flatten_cons, List.length_append, List.length_cons]
      have : 1 ≤ (encI x).length := by simp [encI]
      omega
  rw [e, encL]
  simp only [List.length_append]
  omega
theorem listS_len {l : List UInt8} {xs : List (List UInt8)} {r : List UInt8} (h : listL textL l = some (xs, r)) : xs.length ≤ l.length := by
  have e := listL_split (enc := encT) (fun l x r h => textL_split h) h
  have h1 : xs.length ≤ (xs.map encT).flatten.length := by
    clear h e
    induction xs with
    | nil => simp
    | cons x xs ih =>
      rw [List.map_cons, List.flatten_cons, List.length_append, List.length_cons]
      have : 1 ≤ (encT x).length := by simp [encT]; omega
      omega
  rw [e, encL]
  simp only [List.length_append]
  omega
end Go.Proofs.YtbefmjodpndndaaDoor
