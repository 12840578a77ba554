
/- Wire: the reader's calls as functions of what is left and whether it failed; encodings are read back. -/
import Derived.Test.YtbefmjodpndndaaDoorWireUni
set_option linter.unusedSimpArgs false
set_option linter.unusedVariables false
namespace Go.Proofs.YtbefmjodpndndaaDoor
open Go.RowKit Go.IntWalk

/-- What a reader holds: the bytes left, failed or not. -/
abbrev RS := List UInt8 × Bool
def rN (s : RS) : Int × RS := match numL s.1 59 0 with
  | some (v, l) => (v, l, s.2)
  | none => (0, [], true)
def rI (s : RS) : Int × RS := match numL s.1 59 (-9223372036854775808) with
  | some (v, l) => (v, l, s.2)
  | none => (0, [], true)
def rT (s : RS) : List UInt8 × RS := match textL s.1 with
  | some (v, l) => (v, l, s.2)
  | none => ([], [], true)
/-- A failed reader has nothing left. -/
def RSok (s : RS) : Prop := s.2 = true → s.1 = []
theorem rN_ok {s : RS} (h : RSok s) : RSok (rN s).2 := by
  intro hb
  unfold rN at hb ⊢
  split at hb
  · rename_i v l hn
    have := h hb
    rw [this] at hn
    simp [numL, Lib.indexByte] at hn
  · rename_i hn
    simp [hn]
theorem rI_ok {s : RS} (h : RSok s) : RSok (rI s).2 := by
  intro hb
  unfold rI at hb ⊢
  split at hb
  · rename_i v l hn
    have := h hb
    rw [this] at hn
    simp [numL, Lib.indexByte] at hn
  · rename_i hn
    simp [hn]
theorem rT_ok {s : RS} (h : RSok s) : RSok (rT s).2 := by
  intro hb
  unfold rT at hb ⊢
  split at hb
  · rename_i v l hn
    have := h hb
    rw [this] at hn
    simp [textL, numL, Lib.indexByte] at hn
  · rename_i hn
    simp [hn]
theorem rN_le (s : RS) : (rN s).2.1.length ≤ s.1.length := by
  unfold rN
  split
  · rename_i h; exact (numL_shorter h).1
  · simp
theorem rI_le (s : RS) : (rI s).2.1.length ≤ s.1.length := by
  unfold rI
  split
  · rename_i h; exact (numL_shorter h).1
  · simp
theorem rT_le (s : RS) : (rT s).2.1.length ≤ s.1.length ∧ (rT s).1.length ≤ s.1.length := by
  unfold rT
  split
  · rename_i h; have := textL_less h; exact ⟨by simp only; omega, by simp only; omega⟩
  · simp
theorem rN_bd (s : RS) : 0 ≤ (rN s).1 ∧ I64 (rN s).1 := by
  unfold rN
  split
  · rename_i h; exact ⟨(numL_shorter h).2, numL_bd h⟩
  · simp [I64]
theorem rI_bd (s : RS) : I64 (rI s).1 := by
  unfold rI
  split
  · rename_i h; exact numL_bd h
  · simp [I64]
theorem rNum_f (s : RS) (hl : s.1.length ≤ 1000000000000) (b : Nat) (W : World) (h : Rd W b s.1 s.2) (he : Env W) :
    Calls Tryd.prog 13 #[.pointer (some ⟨b, 0, none⟩)] W fun e w' => e = .returned (.int .i64 (rN s).1) ∧ Rd w' b (rN s).2.1 (rN s).2.2 ∧ W.grownBy w' (some b) := by
  have := num_any b s.1 s.2 W h hl he
  unfold rN
  cases hr : numL s.1 59 0 with
  | none => rw [hr] at this; exact this
  | some x => obtain ⟨v, l'⟩ := x; rw [hr] at this; exact this
theorem rText_f (s : RS) (hok : RSok s) (hl : s.1.length ≤ 1000000000000) (b : Nat) (W : World) (h : Rd W b s.1 s.2) (he : Env W) :
    Calls Tryd.prog 16 #[.pointer (some ⟨b, 0, none⟩)] W fun e w' => e = .returned (.string (bs (rT s).1)) ∧ Rd w' b (rT s).2.1 (rT s).2.2 ∧ W.grownBy w' (some b) := by
  have := text_any b s.1 s.2 W h hok hl he
  unfold rT
  cases hr : textL s.1 with
  | none => rw [hr] at this; exact this
  | some x =>
    obtain ⟨v, l'⟩ := x
    rw [hr] at this
    have hb : s.2 = false := by
      cases h2 : s.2 with
      | false => rfl
      | true => rw [hok h2] at hr; simp [textL, numL, Lib.indexByte] at hr
    simp only [hb]
    exact this
theorem rI_enc (v : Int) (h : I64 v) (r : List UInt8) (b : Bool) : rI (encI v ++ r, b) = (v, r, b) := by
  unfold rI
  rw [intL_enc v h r]
theorem rN_enc (v : Int) (h : I64 v) (h0 : 0 ≤ v) (r : List UInt8) (b : Bool) : rN (encI v ++ r, b) = (v, r, b) := by
  unfold rN
  have e : encI v ++ r = Lib.itoa v ++ 59 :: r := by simp [encI]
  simp only [e]
  rw [numL_itoa v h 59 0 r (by decide) h0]
theorem rT_enc (t : List UInt8) (h : t.length ≤ 1000000000000) (r : List UInt8) (b : Bool) : rT (encT t ++ r, b) = (t, r, b) := by
  unfold rT
  rw [textL_encT t r h]
/-- Three numbers. -/
abbrev P3 := Int × Int × Int
def enc3 (p : P3) : List UInt8 := encI p.1 ++ encI p.2.1 ++ encI p.2.2
def r3 (s : RS) : P3 × RS := (((rI s).1, (rI (rI s).2).1, (rI (rI (rI s).2).2).1), (rI (rI (rI s).2).2).2)
theorem r3_ok {s : RS} (h : RSok s) : RSok (r3 s).2 := rI_ok (rI_ok (rI_ok h))
theorem r3_le (s : RS) : (r3 s).2.1.length ≤ s.1.length := Nat.le_trans (rI_le _) (Nat.le_trans (rI_le _) (rI_le _))
def P3I (p : P3) : Prop := I64 p.1 ∧ I64 p.2.1 ∧ I64 p.2.2
theorem r3_bd (s : RS) : P3I (r3 s).1 := ⟨rI_bd _, rI_bd _, rI_bd _⟩
theorem r3_enc (p : P3) (h : P3I p) (r : List UInt8) (b : Bool) : r3 (enc3 p ++ r, b) = (p, r, b) := by
  obtain ⟨x, y, z⟩ := p
  obtain ⟨h1, h2, h3⟩ := h
  simp only at h1 h2 h3
  have e1 : rI (enc3 (x, y, z) ++ r, b) = (x, encI y ++ (encI z ++ r), b) := by
    unfold enc3
    rw [List.append_assoc, List.append_assoc]
    exact rI_enc x h1 _ b
  unfold r3
  rw [e1]
  simp only [rI_enc y h2, rI_enc z h3]
theorem encI_le22 (n : Int) (h : I64 n) : (encI n).length ≤ 22 := by
  have := Lib.itoa_length_le n h.1 h.2
  simp [encI]; omega
theorem enc3_le (p : P3) (h : P3I p) : (enc3 p).length ≤ 66 := by
  have := encI_le22 _ h.1; have := encI_le22 _ h.2.1; have := encI_le22 _ h.2.2
  simp only [enc3, List.length_append]; omega
/-- So many values are read. -/
def rMany {α : Type} (f : RS → α × RS) : Nat → RS → List α × RS
  | 0, s => ([], s)
  | n + 1, s => ((f s).1 :: (rMany f n (f s).2).1, (rMany f n (f s).2).2)
theorem rMany_enc {α : Type} (f : RS → α × RS) (enc : α → List UInt8) (r : List UInt8) : ∀ (l : List α), (∀ x ∈ l, ∀ r b, f (enc x ++ r, b) = (x, r, b)) → rMany f l.length ((l.map enc).flatten ++ r, false) = (l, r, false)
  | [], _ => rfl
  | x :: l, h => by
    have h1 := h x (List.mem_cons_self ..)
    have ih := rMany_enc f enc r l (fun y hy => h y (List.mem_cons_of_mem _ hy))
    have e : ((x :: l).map enc).flatten ++ r = enc x ++ ((l.map enc).flatten ++ r) := by simp
    rw [e, List.length_cons]
    unfold rMany
    rw [h1]
    simp only [ih]
theorem rMany_len {α : Type} (f : RS → α × RS) : ∀ (n : Nat) (s : RS), (rMany f n s).1.length = n
  | 0, _ => rfl
  | n + 1, s => by simp [rMany, rMany_len f n]
theorem rMany_all {α : Type} {f : RS → α × RS} {p : α → Prop} (hf : ∀ s, p (f s).1) : ∀ (n : Nat) (s : RS), ∀ x ∈ (rMany f n s).1, p x
  | 0, _, x, hx => by simp [rMany] at hx
  | n + 1, s, x, hx => by
    simp only [rMany, List.mem_cons] at hx
    rcases hx with rfl | hx
    · exact hf s
    · exact rMany_all hf n _ x hx
/-- Values are read while there is something left. -/
def rWhile {α : Type} (f : RS → α × RS) : Nat → RS → List α × RS
  | 0, s => ([], s)
  | n + 1, s => if s.1 = [] then ([], s) else ((f s).1 :: (rWhile f n (f s).2).1, (rWhile f n (f s).2).2)
theorem rWhile_nil {α : Type} (f : RS → α × RS) (n : Nat) (s : RS) (h : s.1 = []) : rWhile f n s = ([], s) := by
  cases n <;> simp [rWhile, h]
theorem rWhile_enc {α : Type} (f : RS → α × RS) (enc : α → List UInt8) (r : List UInt8) : ∀ (l : List α), (∀ x ∈ l, enc x ≠ []) → (∀ x ∈ l, ∀ r b, f (enc x ++ r, b) = (x, r, b)) → rWhile f l.length ((l.map enc).flatten ++ r, false) = (l, r, false)
  | [], _, _ => rfl
  | x :: l, hn, h => by
    have h1 := h x (List.mem_cons_self ..)
    have ih := rWhile_enc f enc r l (fun y hy => hn y (List.mem_cons_of_mem _ hy)) (fun y hy => h y (List.mem_cons_of_mem _ hy))
    have e : ((x :: l).map enc).flatten ++ r = enc x ++ ((l.map enc).flatten ++ r) := by simp
    rw [e, List.length_cons]
    unfold rWhile
    rw [if_neg (by simp [hn x (List.mem_cons_self ..)]), h1]
    simp only [ih]
theorem rWhile_len {α : Type} (f : RS → α × RS) : ∀ (n : Nat) (s : RS), (rWhile f n s).1.length ≤ n
  | 0, _ => by simp [rWhile]
  | n + 1, s => by
    unfold rWhile
    split
    · simp
    · simp [rWhile_len f n]
theorem rWhile_all {α : Type} {f : RS → α × RS} {p : α → Prop} (hf : ∀ s, p (f s).1) : ∀ (n : Nat) (s : RS), ∀ x ∈ (rWhile f n s).1, p x
  | 0, _, x, hx => by simp [rWhile] at hx
  | n + 1, s, x, hx => by
    unfold rWhile at hx
    split at hx
    · simp at hx
    · simp only [List.mem_cons] at hx
      rcases hx with rfl | hx
      · exact hf s
      · exact rWhile_all hf n _ x hx
theorem encI_ne (v : Int) : encI v ≠ [] := by simp [encI]
theorem enc3_ne (p : P3) : enc3 p ≠ [] := by simp [enc3, encI]
theorem flat3_le : ∀ (l : List P3), (∀ x ∈ l, P3I x) → ((l.map enc3).flatten).length ≤ 66 * l.length
  | [], _ => by simp
  | x :: l, h => by
    have h1 := enc3_le x (h x (List.mem_cons_self ..))
    have ih := flat3_le l (fun y hy => h y (List.mem_cons_of_mem _ hy))
    simp only [List.map_cons, List.flatten_cons, List.length_append, List.length_cons]
    omega
end Go.Proofs.YtbefmjodpndndaaDoor
