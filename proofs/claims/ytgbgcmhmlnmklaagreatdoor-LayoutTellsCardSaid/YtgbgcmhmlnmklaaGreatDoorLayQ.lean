
/- Layouts, plain: their encoding, and what is read. -/
import Derived.Test.YtgbgcmhmlnmklaaGreatDoorLayG
import Derived.Test.YtgbgcmhmlnmklaaGreatDoorWireR
set_option linter.unusedSimpArgs false
set_option linter.unusedVariables false
namespace Go.Proofs.YtgbgcmhmlnmklaaGreatDoor
open Go.RowKit Go.IntWalk

/-- The cells with a shelf. -/
def idx (l : List Bool) : List Int := ((List.range l.length).filter (fun i => l.getD i false)).map Int.ofNat
theorem idx_snoc (l : List Bool) (k : Nat) (h : k < l.length) : idx (l.take (k + 1)) = idx (l.take k) ++ if l[k] then [(k : Int)] else [] := by
  have e1 : (l.take (k + 1)).length = k + 1 := by simp; omega
  have e2 : (l.take k).length = k := by simp; omega
  unfold idx
  rw [e1, e2, List.range_succ, List.filter_append, List.map_append]
  congr 1
  · congr 1
    apply List.filter_congr
    intro i hi
    have hi' := List.mem_range.1 hi
    simp [List.getD, List.getElem?_take, hi', show i < k + 1 by omega]
  · have : (l.take (k + 1)).getD k false = l[k] := by simp [List.getD, List.getElem?_take, List.getElem?_eq_getElem h]
    rw [List.filter_cons, this]
    by_cases hb : l[k] <;> simp [hb]
theorem idx_mem (l : List Bool) : ∀ x ∈ idx l, 0 ≤ x ∧ x < l.length := by
  intro x hx
  unfold idx at hx
  obtain ⟨i, hi, rfl⟩ := List.mem_map.1 hx
  have := List.mem_range.1 ((List.mem_filter.1 hi).1)
  simp; omega
theorem idx_len (l : List Bool) : (idx l).length ≤ l.length := by
  unfold idx
  rw [List.length_map]
  exact Nat.le_trans (List.length_filter_le _ _) (by simp)
def fullOf (n : Nat) (at_ : List Int) : List Bool := at_.foldl (fun f i => f.set i.toNat true) (List.replicate n false)
theorem fullOf_len (n : Nat) (at_ : List Int) : (fullOf n at_).length = n := by
  unfold fullOf
  have : ∀ (a : List Int) (f : List Bool), (a.foldl (fun f i => f.set i.toNat true) f).length = f.length := by
    intro a
    induction a with
    | nil => intro f; rfl
    | cons x a ih => intro f; rw [List.foldl_cons, ih]; simp
  rw [this]; simp
theorem fullOf_snoc (n : Nat) (at_ : List Int) (k : Nat) (h : k < at_.length) : fullOf n (at_.take (k + 1)) = (fullOf n (at_.take k)).set at_[k].toNat true := by
  unfold fullOf
  rw [List.take_add_one, List.getElem?_eq_getElem h, List.foldl_append]
  rfl
theorem fullOf_idx (l : List Bool) : fullOf l.length (idx l) = l := by
  have : ∀ k, k ≤ l.length → fullOf l.length (idx (l.take k)) = fillL l k := by
    intro k
    induction k with
    | zero => intro _; simp [idx, fullOf, fillL]
    | succ k ih =>
      intro hk
      rw [idx_snoc l k (by omega)]
      by_cases hb : l[k] = true
      · rw [if_pos hb]
        have e : fullOf l.length (idx (l.take k) ++ [(k : Int)]) = (fullOf l.length (idx (l.take k))).set k true := by
          unfold fullOf; rw [List.foldl_append]; rfl
        rw [e, ih (by omega), ← fillL_set l k (by omega), hb]
      · have hb' : l[k] = false := by simpa using hb
        rw [if_neg hb, List.append_nil, ih (by omega), fillL_false l k (by omega) hb']
  have h := this l.length (Nat.le_refl _)
  rw [List.take_length] at h
  rw [h]
  simp [fillL]
def encLay (l : List Bool) (t : Int) : List UInt8 := encI l.length ++ encL ((idx l).map encI) ++ encI t
/-- Three values are read. -/
def readT (s : List UInt8) : Option (Int × List Int × Int × List UInt8) :=
  match numL s 59 0 with
  | none => none
  | some (n, s1) => match listL fI s1 with
    | none => none
    | some (at_, s2) => match fI s2 with
      | none => none
      | some (t, s3) => some (n, at_, t, s3)
def inR (N : Nat) (at_ : List Int) : Bool := at_.all fun i => decide (0 ≤ i ∧ i < N)
open Classical in
noncomputable def readLay (s : List UInt8) : Option (List Bool × Int) :=
  match readT s with
  | some (n, at_, t, s3) =>
    if s3 = [] ∧ inR (min n 24).toNat at_ = true ∧ rightL (fullOf (min n 24).toNat at_) t = true ∧ encLay (fullOf (min n 24).toNat at_) t = s then some (fullOf (min n 24).toNat at_, t) else none
  | none => none
theorem readT_enc (l : List Bool) (t : Int) (hl : l.length ≤ 24) (ht : I64 t) : readT (encLay l t) = some ((l.length : Int), idx l, t, []) := by
  have h1 : numL (encLay l t) 59 0 = some ((l.length : Int), encL ((idx l).map encI) ++ encI t) := by
    have e : encLay l t = Lib.itoa l.length ++ 59 :: (encL ((idx l).map encI) ++ encI t) := by simp [encLay, encI]
    rw [e]
    exact numL_itoa _ ⟨by omega, by omega⟩ 59 0 _ (by decide) (by omega)
  have h2 : listL fI (encL ((idx l).map encI) ++ encI t) = some (idx l, encI t) :=
    listL_enc fI encI (idx l) (encI t) (by have := idx_len l; omega) (fun x hx r => intL_enc x (by have := idx_mem l x hx; exact ⟨by omega, by omega⟩) r)
  have h3 : fI (encI t) = some (t, []) := by have := intL_enc t ht []; rwa [List.append_nil] at this
  unfold readT
  rw [h1]
  simp only [h2, h3]
theorem readLay_enc (l : List Bool) (t : Int) (h : rightL l t = true) (ht : I64 t) : readLay (encLay l t) = some (l, t) := by
  have hl := ((rightL_iff l t).1 h).2.1
  have hm : (min (l.length : Int) 24).toNat = l.length := by omega
  have hin : inR l.length (idx l) = true := by
    unfold inR
    rw [List.all_eq_true]
    intro x hx
    simpa using idx_mem l x hx
  unfold readLay
  rw [readT_enc l t hl ht]
  simp only [hm, fullOf_idx]
  rw [if_pos ⟨trivial, hin, h, trivial⟩]
theorem readLay_some {s : List UInt8} {f : List Bool} {t : Int} (h : readLay s = some (f, t)) : rightL f t = true ∧ encLay f t = s := by
  unfold readLay at h
  split at h
  · split at h
    · rename_i hc
      simp only [Option.some.injEq, Prod.mk.injEq] at h
      obtain ⟨rfl, rfl⟩ := h
      exact ⟨hc.2.2.1, hc.2.2.2⟩
    · cases h
  · cases h
theorem encLay_len (l : List Bool) (t : Int) (hl : l.length ≤ 24) (ht : I64 t) : (encLay l t).length ≤ 1000 := by
  have li : ∀ n : Int, I64 n → (encI n).length ≤ 22 := by
    intro n hn
    have := Lib.itoa_length_le n hn.1 hn.2
    simp [encI]; omega
  have fb : ∀ (es : List (List UInt8)), (∀ y ∈ es, y.length ≤ 22) → es.flatten.length ≤ es.length * 22 := by
    intro es
    induction es with
    | nil => intro _; simp
    | cons y es ih =>
      intro h
      have h1 := ih (fun z hz => h z (List.mem_cons_of_mem _ hz))
      have h2 := h y List.mem_cons_self
      rw [List.flatten_cons, List.length_append, List.length_cons, Nat.succ_mul]
      omega
  have h1 := li l.length ⟨by omega, by omega⟩
  have h2 := li t ht
  have h3 := fb ((idx l).map encI) (by
    intro y hy
    obtain ⟨x, hx, rfl⟩ := List.mem_map.1 hy
    have := idx_mem l x hx
    exact li x ⟨by omega, by omega⟩)
  have h4 := idx_len l
  have h5 := Lib.itoa_length_le (((idx l).map encI).length : Int) (by omega) (by rw [List.length_map]; omega)
  rw [List.length_map] at h3
  unfold encLay encL
  simp only [List.length_append, List.length_cons, List.length_nil]
  omega
end Go.Proofs.YtgbgcmhmlnmklaaGreatDoor
